/-
  impl's travel times: they are the least weights of ways. spec's travel times: they are the least weights of ways. Times of attendance of stations: the least travel time from one of them, on both sides. The same on the reference's side. CoverTimes on both sides. Limits, and the nodes that are covered (or not), on both sides. CoveredNodes and UncoveredNodes on both sides. WeakestNode, LeastLimit and CoverText on both sides. CoverText on both sides. WeakestNode on both sides. LeastLimit on both sides. (joined by pack.py: TimesI TimesS Cov CovS CovA CovB CovC CovD CovE CovD2 CovD3)
-/
import Derived.Test.YtahehdgkbhjpoaaK4
import Derived.Test.YtahehdgkbhjpoaaK5
import Derived.Test.YtahehdgkbhjpoaaK8
import Derived.Deep.LoopGhost
import Derived.Outline
import Derived.Test.YtahehdgkbhjpoaaK6
import Derived.Test.YtahehdgkbhjpoaaK7
import Derived.Test.YtahehdgkbhjpoaaK3
namespace Go.Proofs.Ytahehdgkbhjpoaa
set_option linter.unusedVariables false
set_option linter.unusedSimpArgs false
open Go.RowKit

theorem flags_len (ar : List Arc) (p : List Int × Bool) : (ar.foldl flag1 p).1.length = p.1.length := by rw [flags_fst, roundT_len]
/-- A bound for all that stands in a list on the way. -/
theorem mid_bd {n : Int} {l : List St} (h : goodTown n l = true) {N src k : Nat} (hk : k < 14) (pre : List Arc) (hp : ∀ x ∈ pre, x ∈ arcs l) (hl : pre.length ≤ 82) (b : Bool) :
    ∀ v, -1 ≤ ((pre.foldl flag1 (iterT (arcs l) (startT N src) k, b)).1).getD v 0 ∧ ((pre.foldl flag1 (iterT (arcs l) (startT N src) k, b)).1).getD v 0 ≤ 5000000 := by
  obtain ⟨_, _, h40, _⟩ := goodTown_true h
  have hA := arcs_bd h
  have h1 := bd_iter hA N src k
  have hlen : (arcs l).length ≤ 80 := by rw [arcs_len]; omega
  have hm : (arcs l).length * k ≤ 80 * 13 := Nat.mul_le_mul hlen (by omega)
  have h0 : (0 : Int) ≤ 3600 * (arcs l).length * k := Int.mul_nonneg (by omega) (by omega)
  have h2 := bd_fold pre _ _ h1 h0 (fun x hx => hA x (hp x hx))
  intro v
  have h3 := h2 v
  rw [flags_fst]
  have e : (3600 * ((arcs l).length : Int) * (k : Int)) = 3600 * (((arcs l).length * k : Nat) : Int) := by rw [Int.natCast_mul, Int.mul_assoc]
  rw [e] at h3
  generalize (arcs l).length * k = q at h3 hm
  dsimp only
  omega

theorem arcs_snoc {l : List St} {i : Nat} {s : St} (h : l[i]? = some s) : arcs (l.take (i + 1)) = arcs (l.take i) ++ arcs2 s := by
  unfold arcs
  rw [take_succ_of h, List.flatMap_append]
  simp
theorem arcs_take_mem {l : List St} {i : Nat} : ∀ x ∈ arcs (l.take i), x ∈ arcs l := by
  intro x hx
  unfold arcs at hx ⊢
  obtain ⟨s, hs, hm⟩ := List.mem_flatMap.1 hx
  exact List.mem_flatMap.2 ⟨s, List.mem_of_mem_take hs, hm⟩

theorem flag_yes {d : List Int} {ch : Bool} {a b : Nat} {s x y : Int} (hx : d.getD a 0 = x) (hy : d.getD b 0 = y) (h : 0 ≤ x ∧ (y < 0 ∨ x + s < y)) : flag1 (d, ch) (a, b, s) = (d.set b (x + s), true) := by
  have hb : better d a b s = true := by unfold better; rw [hx, hy]; simp only [Bool.and_eq_true, Bool.or_eq_true, decide_eq_true_eq]; exact h
  unfold flag1
  rw [if_pos hb, hx]
theorem flag_no {d : List Int} {ch : Bool} {a b : Nat} {s x y : Int} (hx : d.getD a 0 = x) (hy : d.getD b 0 = y) (h : ¬ (0 ≤ x ∧ (y < 0 ∨ x + s < y))) : flag1 (d, ch) (a, b, s) = (d, ch) := by
  have hb : better d a b s = false := by unfold better; rw [hx, hy]; simp only [Bool.and_eq_false_iff, Bool.or_eq_false_iff, decide_eq_false_iff_not]; omega
  unfold flag1
  rw [hb]; rfl
theorem two0 {fa ta : Nat} {s : Int} {p r : List Int × Bool} (h : ((arcs2 ⟨fa, ta, s⟩).take 0).foldl flag1 p = r) : ((arcs2 ⟨fa, ta, s⟩).take 1).foldl flag1 p = flag1 r (fa, ta, s) := by
  subst h; simp [arcs2]
theorem two1 {fa ta : Nat} {s : Int} {p r : List Int × Bool} (h : ((arcs2 ⟨fa, ta, s⟩).take 1).foldl flag1 p = r) : ((arcs2 ⟨fa, ta, s⟩).take 2).foldl flag1 p = flag1 r (ta, fa, s) := by
  subst h; simp [arcs2]
theorem mid_mem {l : List St} {i j : Nat} {s : St} (h : l[i]? = some s) : ∀ x ∈ arcs (l.take i) ++ (arcs2 s).take j, x ∈ arcs l := by
  intro x hx
  rcases List.mem_append.1 hx with hx | hx
  · exact arcs_take_mem x hx
  · exact List.mem_flatMap.2 ⟨s, List.mem_of_getElem? h, List.mem_of_mem_take hx⟩
theorem mid_len {l : List St} {i j : Nat} {s : St} (hl : l.length ≤ 40) : (arcs (l.take i) ++ (arcs2 s).take j).length ≤ 82 := by
  rw [List.length_append, arcs_len, List.length_take, List.length_take]
  have : (arcs2 s).length = 2 := rfl
  omega

set_option maxRecDepth 100000 in
set_option maxHeartbeats 4000000 in
theorem timesI_c (n : Nat) (v : Value) (l : List St) (B src : Nat) (w : World) (hg : goodTown n l = true) (hs : src < n) (t0 : w.cell? ⟨B, 0, none⟩ = some (.int .i64 n)) (t1 : w.cell? ⟨B, 1, none⟩ = some v) (hr : Rd w v l.length (l.flatMap St.cells)) :
    Calls Try.prog 72 #[.pointer (some ⟨B, 0, none⟩), .int .i64 src] w (OwnI (distT n (arcs l) src) w) := by
  obtain ⟨A, c, rfl, hc, hm, hr⟩ := hr
  rw [maxLen_eq] at hm
  have hB : B < w.heap.size := World.block_lt_of_cell? w _ t0
  obtain ⟨hn1, hn2, hl40, hst⟩ := goodTown_true hg
  have hA := arcs_good hg
  rw [Int.toNat_natCast] at hA
  have HA := Lib.hid hA
  have HST := Lib.hid hst
  have HG := Lib.hid hg
  have HR := Lib.hid hr
  clear hA hst hg hr
  go_enter Try.func72, Try.ntmps72
  go_wp2_with fail
  refine (repeat_c _ (-1) n _ (rd_new w rfl (Nat.le_refl _) (by rw [maxLen_eq]; simp)) (by omega) (by omega)).mono ?_
  rintro e w1 ⟨v1, rfl, ho, hb⟩
  rw [List.length_replicate] at ho
  obtain ⟨g, cap, rfl, hbg, hgl, hcap, hcm⟩ := own_shape ho (by omega)
  have c0 := own_cell ho hs
  have f0 := ho.frozenAt src
  have hb1 : Below w.heap.size w w1 := bel_then (bel_al (Below.refl _ _) _) hb
  have ho2 := own_setI ho src 0
  have hg1 : w.heap.size ≤ g := by simp at hbg; omega
  have HB1 : Hid (Below w.heap.size w (w1.setCell ⟨g, src, none⟩ (.int .i64 0))) := Lib.hid (hb1.setCell hg1 _)
  have HO := Lib.hid (own_base (base' := w.heap.size) ho2 (by simp))
  clear ho hb hb1 ho2 hbg
  have hs0 : (0 : Int) ≤ (src : Int) := by omega
  have hs1 : (src : Int) < (n : Int) := by omega
  go_wp2_with fail
  generalize World.setCell w1 ⟨g, src, none⟩ (.int .i64 0) = w2 at HO HB1 ⊢
  have HGE : Hid (∀ q, some g = some q → w.heap.size ≤ q) := Lib.hid (fun q e => by have := Option.some.inj e; omega)
  clear c0 f0 hs0 hs1 t0
  have HT1 := Lib.hid t1
  clear t1
  go_loopg [6] n (fun gk v6 wr => ∃ (k : Nat) (ch : Bool), v6 = .bool ch ∧ Hid (wr.ownsRow w.heap.size 3 1 (.slice (some ⟨g, 0, none⟩) n cap) n (ints (iterT (arcs l) (startT n src) k))) ∧ Hid (w2.grownBy wr (some g)) ∧ Hid ((ch = true → k < n ∧ gk = n - k) ∧ (ch = false → iterT (arcs l) (startT n src) k = distT n (arcs l) src)))
  case atStart => exact ⟨0, true, rfl, HO, Lib.hid (World.grownBy.refl _ _), Lib.hid ⟨fun _ => ⟨by omega, by omega⟩, fun h => by cases h⟩⟩
  case round =>
    obtain ⟨k, ch, rfl, HOW, HGR, HCH⟩ := hrel
    cases ch with
    | false =>
      have E := Lib.hid (HCH.out.2 rfl)
      clear HCH
      go_wp2
      go_ret
      have e := E.out
      refine ⟨_, rfl, ?_, gro_new HB1.out HGR.out HGE.out⟩
      have hd : (distT n (arcs l) src).length = n := by unfold distT; rw [iterT_len, startT_len]
      rw [hd, ← e]; exact HOW.out
    | true =>
      have hk := (HCH.out.1 rfl).1
      have hgs : g < w2.heap.size := by have := HOW.out.lt g rfl; have := (HO.out.lt g rfl).2; omega
      have z1 : wr.cell? ⟨B, 1, none⟩ = some (.slice A l.length c) := (gro_cell HGR.out (Nat.lt_of_lt_of_le hB HB1.out.size) (by omega)).trans ((HB1.out.cell (p := ⟨B, 1, none⟩) hB).trans HT1.out)
      have HGK := Lib.hid (HCH.out.1 rfl).2
      clear HCH
      have HZ1 := Lib.hid z1
      clear HT1
      go_wp2_with fail
      obtain ⟨d, hd⟩ : ∃ d, iterT (arcs l) (startT n src) k = d := ⟨_, rfl⟩
      rw [hd] at HOW
      have HD := Lib.hid hd
      obtain ⟨wA, rfl⟩ : ∃ wA : World, wA = wr := ⟨_, rfl⟩
      clear hd z1
      go_loopw [6, 28] (fun v6 v28 wr2 => ∃ (i : Nat) (d1 : List Int) (ch : Bool), i ≤ l.length ∧ v28 = .int .i64 i ∧ v6 = .bool ch ∧ Hid ((arcs (l.take i)).foldl flag1 (d, false) = (d1, ch)) ∧ Hid (wr2.ownsRow w.heap.size 3 1 (.slice (some ⟨g, 0, none⟩) n cap) n (ints d1)) ∧ Hid (w2.grownBy wr2 (some g))) (fun _ v28 _ => l.length - (intOf v28).toNat)
      case atStart => exact ⟨0, d, false, Nat.zero_le _, rfl, rfl, Lib.hid rfl, HOW, HGR⟩
      case round =>
        obtain ⟨i, d1, ch, hi, rfl, rfl, HF, HOW2, HGR2⟩ := hrel
        obtain ⟨wB, rfl⟩ : ∃ wB : World, wB = wr := ⟨_, rfl⟩
        by_cases hlt : i < l.length
        · have hb2 : Below w.heap.size w wB := gro_new HB1.out HGR2.out HGE.out
          obtain ⟨b, off, rfl, hbl, hcell⟩ := HR.out (by omega)
          obtain ⟨f, t, s, hx, c0, c1, c2⟩ := st_at' hcell hb2 hbl hlt
          have hbd := HST.out _ (List.mem_of_getElem? hx)
          dsimp only at hbd
          obtain ⟨b1, b2, b3, b4, b5⟩ := hbd
          obtain ⟨fa, rfl⟩ := Int.eq_ofNat_of_zero_le b1
          obtain ⟨ta, rfl⟩ := Int.eq_ofNat_of_zero_le (show 0 ≤ t by omega)
          have HX := Lib.hid hx
          have hs2 := HGR2.out.size
          clear hcell hb2 hx
          go_wp2_with fail
          generalize hW3 : World.alloc (World.alloc wB _) _ = w3
          have k2 : w3.cell? ⟨wB.heap.size, 2, none⟩ = some (.int .i64 s) := by subst hW3; simp [go_sem]
          have m0 : w3.cell? ⟨wB.heap.size + 1, 0, none⟩ = some (.int .i64 fa) := by subst hW3; simp [go_sem]
          have m1 : w3.cell? ⟨wB.heap.size + 1, 1, none⟩ = some (.int .i64 ta) := by subst hW3; simp [go_sem]
          have m2 : w3.cell? ⟨wB.heap.size + 1, 2, none⟩ = some (.int .i64 ta) := by subst hW3; simp [go_sem]
          have m3 : w3.cell? ⟨wB.heap.size + 1, 3, none⟩ = some (.int .i64 fa) := by subst hW3; simp [go_sem]
          have hz3 : wB.heap.size + 1 < w3.heap.size := by subst hW3; simp
          have HGR3 : Hid (w2.grownBy w3 (some g)) := Lib.hid (by subst hW3; exact gro_al (gro_al HGR2.out _) _)
          have HOW3 : Hid (w3.ownsRow w.heap.size 3 1 (.slice (some ⟨g, 0, none⟩) n cap) n (ints d1)) := Lib.hid (by subst hW3; exact (HOW2.out.alloc _).alloc _)
          clear hW3
          go_loopw [6, 44] (fun v6 v44 wr3 => ∃ (j : Nat) (d2 : List Int) (ch2 : Bool), j ≤ 2 ∧ v44 = .int .i64 j ∧ v6 = .bool ch2 ∧ Hid (((arcs2 ⟨fa, ta, s⟩).take j).foldl flag1 (d1, ch) = (d2, ch2)) ∧ Hid (wr3.ownsRow w.heap.size 3 1 (.slice (some ⟨g, 0, none⟩) n cap) n (ints d2)) ∧ Hid (w3.grownBy wr3 (some g))) (fun _ v44 _ => 2 - (intOf v44).toNat)
          case atStart => exact ⟨0, d1, ch, Nat.zero_le _, rfl, rfl, Lib.hid rfl, HOW3, Lib.hid (World.grownBy.refl _ _)⟩
          case round =>
            obtain ⟨j, d2, ch2, hj, rfl, rfl, HF2, HOW4, HGR4⟩ := hrel
            obtain ⟨wC, rfl⟩ : ∃ wC : World, wC = wr := ⟨_, rfl⟩
            have hbdd : ∀ v, -1 ≤ d2.getD v 0 ∧ d2.getD v 0 ≤ 5000000 := by
              have h := mid_bd (src := src) (N := n) HG.out (k := k) (by omega) _ (mid_mem (j := j) HX.out) (mid_len hl40) false
              rw [HD.out, List.foldl_append, HF.out, HF2.out] at h
              exact h
            have hta : ta < n := by omega
            have hfa : fa < n := by omega
            have hs4 := HGR4.out.size
            obtain ⟨x, hx⟩ : ∃ x, d2.getD fa 0 = x := ⟨_, rfl⟩
            obtain ⟨y, hy⟩ : ∃ y, d2.getD ta 0 = y := ⟨_, rfl⟩
            have bx := hbdd fa
            have bY := hbdd ta
            have ca := own_cell HOW4.out hfa
            have cb := own_cell HOW4.out hta
            rw [hx] at bx ca
            rw [hy] at bY cb
            obtain ⟨bx0, bx1⟩ := bx
            obtain ⟨by0, by1⟩ := bY
            have HXX := Lib.hid hx
            have HYY := Lib.hid hy
            have fb := HOW4.out.frozenAt ta
            have fa' := HOW4.out.frozenAt fa
            have n2 := (gro_cell HGR4.out (by omega) (by omega)).trans k2
            have i0 : (0 : Int) ≤ (fa : Int) := by omega
            have i1 : (fa : Int) < (n : Int) := by omega
            have i2 : (0 : Int) ≤ (ta : Int) := by omega
            have i3 : (ta : Int) < (n : Int) := by omega
            have q0 : g < wC.heap.size := by omega
            have q1 : wB.heap.size < wC.heap.size := by omega
            have q2 : wB.heap.size + 1 < wC.heap.size := by omega
            clear hbdd hx hy
            rcases j with _ | _ | j
            · have p0 := (gro_cell HGR4.out (by omega) (by omega)).trans m0
              have p1 := (gro_cell HGR4.out (by omega) (by omega)).trans m1
              go_wp2_with fail
              go_quiet (fail)
              go_wp2
              all_goals first
                | (refine ⟨⟨1, d2.set ta (x + s), true, by omega, by go_num, rfl, Lib.hid ((two0 HF2.out).trans (flag_yes HXX.out HYY.out (by omega))), Lib.hid (own_setI (own_drN (HOW4.out.alloc _) _) ta (x + s)), Lib.hid (only_setCell (gro_drN (gro_al HGR4.out _) _) ta _)⟩, by simp [intOf]⟩)
                | (refine ⟨⟨1, d2, ch2, by omega, by go_num, rfl, Lib.hid ((two0 HF2.out).trans (flag_no HXX.out HYY.out (by omega))), Lib.hid (own_drN (HOW4.out.alloc _) _), Lib.hid (gro_drN (gro_al HGR4.out _) _)⟩, by simp [intOf]⟩)
            · have p0 := (gro_cell HGR4.out (by omega) (by omega)).trans m2
              have p1 := (gro_cell HGR4.out (by omega) (by omega)).trans m3
              go_wp2_with fail
              go_quiet (fail)
              go_wp2
              all_goals first
                | (refine ⟨⟨2, d2.set fa (y + s), true, by omega, by go_num, rfl, Lib.hid ((two1 HF2.out).trans (flag_yes HYY.out HXX.out (by omega))), Lib.hid (own_setI (own_drN (HOW4.out.alloc _) _) fa (y + s)), Lib.hid (only_setCell (gro_drN (gro_al HGR4.out _) _) fa _)⟩, by simp [intOf]⟩)
                | (refine ⟨⟨2, d2, ch2, by omega, by go_num, rfl, Lib.hid ((two1 HF2.out).trans (flag_no HYY.out HXX.out (by omega))), Lib.hid (own_drN (HOW4.out.alloc _) _), Lib.hid (gro_drN (gro_al HGR4.out _) _)⟩, by simp [intOf]⟩)
            · obtain rfl : j = 0 := by omega
              go_wp2
              refine ⟨⟨i + 1, d2, ch2, by omega, by go_num, rfl, Lib.hid ?_, HOW4, Lib.hid (gro_trans HGR3.out HGR4.out)⟩, by simp [intOf]; omega⟩
              have e := HF2.out
              rw [List.take_of_length_le (by simp [arcs2])] at e
              rw [arcs_snoc HX.out, List.foldl_append, HF.out, e]
        · go_wp2
          obtain rfl : i = l.length := by omega
          have e := HF.out
          rw [List.take_length] at e
          have e1 : roundT (arcs l) d = d1 := by have := flags_fst (arcs l) (d, false); rw [e] at this; exact this.symm
          have e2 : iterT (arcs l) (startT n src) (k + 1) = d1 := by show roundT (arcs l) (iterT (arcs l) (startT n src) k) = d1; rw [HD.out, e1]
          cases ch with
          | false =>
            go_roundg 0
            case measure => have := HGK.out; omega
            case rel =>
              refine ⟨k + 1, false, rfl, by rw [e2]; exact HOW2, HGR2, Lib.hid ⟨fun h => (by cases h), fun _ => ?_⟩⟩
              have e3 : roundT (arcs l) d = d := flags_false (arcs l) d (by rw [e])
              rw [e2, ← e1, e3, ← HD.out]
              exact (iter_fix (by rw [HD.out]; exact e3) n (by omega)).symm
          | true =>
            have hkn : k + 1 < n := by
              rcases Nat.lt_or_ge (k + 1) n with h | h
              · exact h
              · have h2 := iter_last HA.out hs h
                rw [HD.out, e] at h2
                have := congrArg Prod.snd h2
                cases this
            go_roundg (n - (k + 1))
            case measure => have := HGK.out; omega
            case rel => exact ⟨k + 1, true, rfl, by rw [e2]; exact HOW2, HGR2, Lib.hid ⟨fun _ => ⟨hkn, rfl⟩, fun h => (by cases h)⟩⟩
end Go.Proofs.Ytahehdgkbhjpoaa

namespace Go.Proofs.Ytahehdgkbhjpoaa
set_option linter.unusedVariables false
set_option linter.unusedSimpArgs false
open Go.RowKit

theorem flags1_fst {d r : List Int} {ch : Bool} {x : Arc} (h : (flag1 (d, ch) x).1 = r) : relax1 d x = r := by rw [← h, flag1_fst]
theorem relax_yes {d : List Int} {a b : Nat} {s x y : Int} (hx : d.getD a 0 = x) (hy : d.getD b 0 = y) (h : 0 ≤ x ∧ (y < 0 ∨ x + s < y)) : relax1 d (a, b, s) = d.set b (x + s) := by
  have := flag1_fst (d, false) (a, b, s); rw [flag_yes hx hy h] at this; exact this.symm
theorem relax_no {d : List Int} {a b : Nat} {s x y : Int} (hx : d.getD a 0 = x) (hy : d.getD b 0 = y) (h : ¬ (0 ≤ x ∧ (y < 0 ∨ x + s < y))) : relax1 d (a, b, s) = d := by
  have := flag1_fst (d, false) (a, b, s); rw [flag_no hx hy h] at this; exact this.symm
theorem rtwo0 {fa ta : Nat} {s : Int} {p r : List Int} (h : roundT ((arcs2 ⟨fa, ta, s⟩).take 0) p = r) : roundT ((arcs2 ⟨fa, ta, s⟩).take 1) p = relax1 r (fa, ta, s) := by
  subst h; simp [arcs2, roundT]
theorem rtwo1 {fa ta : Nat} {s : Int} {p r : List Int} (h : roundT ((arcs2 ⟨fa, ta, s⟩).take 1) p = r) : roundT ((arcs2 ⟨fa, ta, s⟩).take 2) p = relax1 r (ta, fa, s) := by
  subst h; simp [arcs2, roundT]
theorem roundT_append (a b : List Arc) (d : List Int) : roundT (a ++ b) d = roundT b (roundT a d) := by unfold roundT; rw [List.foldl_append]
def fill1 (n k : Nat) : List Int := List.replicate k (-1) ++ List.replicate (n - k) 0
theorem fill1_len {n k : Nat} (h : k ≤ n) : (fill1 n k).length = n := by simp [fill1]; omega
theorem fill1_set {n k : Nat} (h : k < n) : (fill1 n k).set k (-1) = fill1 n (k + 1) := by
  unfold fill1
  obtain ⟨m, hm⟩ : ∃ m, n - k = m + 1 := ⟨n - k - 1, by omega⟩
  rw [hm, show n - (k + 1) = m by omega, List.set_append_right (h := by simp)]
  rw [List.length_replicate, Nat.sub_self, List.replicate_succ (n := m), List.set_cons_zero, List.replicate_succ' (n := k), List.append_assoc]; rfl
theorem fill1_full (n : Nat) : fill1 n n = List.replicate n (-1) := by simp [fill1]
theorem made_ints (n : Nat) : (madeCells (Value.int IntKind.i64 0).cells (n * 1)).toList = ints (List.replicate n 0) := by
  rw [made_fil 0 n, fil_zero]; simp [ints]

set_option maxRecDepth 100000 in
set_option maxHeartbeats 4000000 in
theorem toTimes_c (n : Nat) (v : Value) (l : List St) (src : Nat) (w : World) (hg : goodTown n l = true) (hs : src < n) (hr : Rd w v l.length (l.flatMap St.cells)) :
    Calls Try.prog 113 #[.agg #[.int .i64 n, v], .int .i64 src] w (OwnI (distT n (arcs l) src) w) := by
  obtain ⟨A, c, rfl, hc, hm, hr⟩ := hr
  rw [maxLen_eq] at hm
  obtain ⟨hn1, hn2, hl40, hst⟩ := goodTown_true hg
  obtain ⟨i0, hi, hz0, hz1, hz2⟩ := info_parts Try.infoInt
  have HST := Lib.hid hst
  have HG := Lib.hid hg
  have HR := Lib.hid hr
  clear hst hg hr
  go_enter Try.func113, Try.ntmps113
  go_wp2_with (at_make; refine wpList_make_full _ rfl _ _ 27 rfl w.heap.size 3 i0 _ 1 Try.underlying27 hi hz0 hz1 _ _ _ _ n rfl rfl rfl rfl (by rw [hz2]; omega) (by rw [maxLen_eq]; omega) (by simp) ?_; intro w2 hown2 hg2; rw [made_ints, World.size_alloc] at hown2; have b0 : w2.cell? ⟨w.heap.size, 0, none⟩ = some (.int .i64 n) := (by rw [World.cell?_of_block (hg2.block w.heap.size (by simp) (by simp))]; simp [go_sem]); have b1 : w2.cell? ⟨w.heap.size, 1, none⟩ = some (.slice A l.length c) := (by rw [World.cell?_of_block (hg2.block w.heap.size (by simp) (by simp))]; simp [go_sem]); have HB2 : Hid (Below w.heap.size w w2) := Lib.hid (bel_grown (bel_al (Below.refl _ _) _) hg2 (fun k h => by cases h)); have HO2 := Lib.hid hown2; clear hown2 hg2)
  obtain ⟨g, hgdef⟩ : ∃ g, g = w.heap.size + 1 := ⟨_, rfl⟩
  rw [← hgdef] at HO2 ⊢
  have hgw : w.heap.size < g := by omega
  have hg0 : w.heap.size ≤ g := by omega
  have HGE : Hid (∀ q, some g = some q → w.heap.size ≤ q) := Lib.hid (fun q e => by have := Option.some.inj e; omega)
  have hgs : g < w2.heap.size := (HO2.out.lt g rfl).2
  clear hgdef
  go_loopw [19] (fun v19 wr => ∃ k : Nat, k ≤ n ∧ v19 = .int .i64 k ∧ Hid (wr.ownsRow w.heap.size 3 1 (.slice (some ⟨g, 0, none⟩) n n) n (ints (fill1 n k))) ∧ Hid (w2.grownBy wr (some g))) (fun v19 _ => n - (intOf v19).toNat)
  case atStart => exact ⟨0, Nat.zero_le _, rfl, HO2, Lib.hid (World.grownBy.refl _ _)⟩
  case round =>
    obtain ⟨k, hk, rfl, HOW, HGR⟩ := hrel
    by_cases hlt : k < n
    · have c0 := own_cell HOW.out hlt
      have f0 := HOW.out.frozenAt k
      go_wp2
      refine ⟨⟨k + 1, by omega, by go_num, Lib.hid ?_, Lib.hid (only_setCell HGR.out _ _)⟩, by simp [intOf]; omega⟩
      have := own_setI HOW.out k (-1)
      rw [fill1_set hlt] at this
      exact this
    · obtain rfl : k = n := by omega
      obtain ⟨wz, rfl⟩ : ∃ wz : World, wz = wr := ⟨_, rfl⟩
      have c0 := own_cell HOW.out hs
      have f0 := HOW.out.frozenAt src
      have ho3 := own_setI HOW.out src 0
      rw [fill1_full] at ho3
      have hg3 := only_setCell HGR.out src (.int .i64 0)
      have HO3 : Hid ((wz.setCell ⟨g, src, none⟩ (.int .i64 0)).ownsRow w.heap.size 3 1 (.slice (some ⟨g, 0, none⟩) k k) k (ints (startT k src))) := Lib.hid ho3
      have HG3 := Lib.hid hg3
      clear ho3 hg3
      have hs0 : (0 : Int) ≤ (src : Int) := by omega
      have hs1 : (src : Int) < (k : Int) := by omega
      go_wp2_with fail
      generalize World.setCell wz ⟨g, src, none⟩ (.int .i64 0) = w3 at HO3 HG3 ⊢
      clear c0 f0 hs0 hs1
      go_loopw [7] (fun v7 wr => ∃ (q : Nat), q ≤ k ∧ v7 = .int .i64 q ∧ Hid (wr.ownsRow w.heap.size 3 1 (.slice (some ⟨g, 0, none⟩) k k) k (ints (iterT (arcs l) (startT k src) q))) ∧ Hid (w2.grownBy wr (some g))) (fun v7 _ => k - (intOf v7).toNat)
      case atStart => exact ⟨0, Nat.zero_le _, rfl, HO3, HG3⟩
      case round =>
        obtain ⟨q, hq, rfl, HOWq, HGRq⟩ := hrel
        obtain ⟨wA, rfl⟩ : ∃ wA : World, wA = wr := ⟨_, rfl⟩
        have z0 : wA.cell? ⟨w.heap.size, 0, none⟩ = some (.int .i64 k) := (gro_cell HGRq.out (by omega) (by omega)).trans b0
        have z1 : wA.cell? ⟨w.heap.size, 1, none⟩ = some (.slice A l.length c) := (gro_cell HGRq.out (by omega) (by omega)).trans b1
        by_cases hqk : q < k
        · obtain ⟨d, hd⟩ : ∃ d, iterT (arcs l) (startT k src) q = d := ⟨_, rfl⟩
          rw [hd] at HOWq
          have HD := Lib.hid hd
          clear hd
          go_wp2_with fail
          go_loopw [38] (fun v38 wr => ∃ (i : Nat) (d1 : List Int), i ≤ l.length ∧ v38 = .int .i64 i ∧ Hid (roundT (arcs (l.take i)) d = d1) ∧ Hid (wr.ownsRow w.heap.size 3 1 (.slice (some ⟨g, 0, none⟩) k k) k (ints d1)) ∧ Hid (w2.grownBy wr (some g))) (fun v38 _ => l.length - (intOf v38).toNat)
          case atStart => exact ⟨0, d, Nat.zero_le _, rfl, Lib.hid rfl, HOWq, HGRq⟩
          case round =>
            obtain ⟨i, d1, hi', rfl, HF, HOW2, HGR2⟩ := hrel
            obtain ⟨wB, rfl⟩ : ∃ wB : World, wB = wr := ⟨_, rfl⟩
            by_cases hlt : i < l.length
            · have hb2 : Below w.heap.size w wB := gro_new HB2.out HGR2.out HGE.out
              obtain ⟨b, off, rfl, hbl, hcell⟩ := HR.out (by omega)
              obtain ⟨f, t, s, hx, c0, c1, c2⟩ := st_at' hcell hb2 hbl hlt
              have hbd := HST.out _ (List.mem_of_getElem? hx)
              dsimp only at hbd
              obtain ⟨b1', b2', b3', b4', b5'⟩ := hbd
              obtain ⟨fa, rfl⟩ := Int.eq_ofNat_of_zero_le b1'
              obtain ⟨ta, rfl⟩ := Int.eq_ofNat_of_zero_le (show 0 ≤ t by omega)
              have HX := Lib.hid hx
              have hs2 := HGR2.out.size
              clear hcell hb2 hx
              go_wp2_with fail
              generalize hW3 : World.alloc (World.alloc (World.alloc (World.alloc wB _) _) _) _ = w4
              have k2 : w4.cell? ⟨wB.heap.size, 2, none⟩ = some (.int .i64 s) := by subst hW3; simp [go_sem]
              have m0 : w4.cell? ⟨wB.heap.size + 1, 0, none⟩ = some (.int .i64 fa) := by subst hW3; simp [go_sem]
              have m1 : w4.cell? ⟨wB.heap.size + 1, 1, none⟩ = some (.int .i64 ta) := by subst hW3; simp [go_sem]
              have m2 : w4.cell? ⟨wB.heap.size + 1 + 1, 0, none⟩ = some (.int .i64 ta) := by subst hW3; simp [go_sem]
              have m3 : w4.cell? ⟨wB.heap.size + 1 + 1, 1, none⟩ = some (.int .i64 fa) := by subst hW3; simp [go_sem]
              have r0 : w4.cell? ⟨wB.heap.size + 1 + 1 + 1, 0, none⟩ = some (.slice (some ⟨wB.heap.size + 1, 0, none⟩) 2 2) := by subst hW3; simp [go_sem]
              have r1 : w4.cell? ⟨wB.heap.size + 1 + 1 + 1, 1, none⟩ = some (.slice (some ⟨wB.heap.size + 1 + 1, 0, none⟩) 2 2) := by subst hW3; simp [go_sem]
              have hz3 : wB.heap.size + 1 + 1 + 1 < w4.heap.size := by subst hW3; simp
              have HGR3 : Hid (w2.grownBy w4 (some g)) := Lib.hid (by subst hW3; exact gro_al (gro_al (gro_al (gro_al HGR2.out _) _) _) _)
              have HOW3 : Hid (w4.ownsRow w.heap.size 3 1 (.slice (some ⟨g, 0, none⟩) k k) k (ints d1)) := Lib.hid (by subst hW3; exact (((HOW2.out.alloc _).alloc _).alloc _).alloc _)
              clear hW3
              go_loopw [54] (fun v54 wr3 => ∃ (j : Nat) (d2 : List Int), j ≤ 2 ∧ v54 = .int .i64 j ∧ Hid (roundT ((arcs2 ⟨fa, ta, s⟩).take j) d1 = d2) ∧ Hid (wr3.ownsRow w.heap.size 3 1 (.slice (some ⟨g, 0, none⟩) k k) k (ints d2)) ∧ Hid (w4.grownBy wr3 (some g))) (fun v54 _ => 2 - (intOf v54).toNat)
              case atStart => exact ⟨0, d1, Nat.zero_le _, rfl, Lib.hid rfl, HOW3, Lib.hid (World.grownBy.refl _ _)⟩
              case round =>
                obtain ⟨j, d2, hj, rfl, HF2, HOW4, HGR4⟩ := hrel
                obtain ⟨wC, rfl⟩ : ∃ wC : World, wC = wr := ⟨_, rfl⟩
                have hbdd : ∀ v, -1 ≤ d2.getD v 0 ∧ d2.getD v 0 ≤ 5000000 := by
                  have h := mid_bd (src := src) (N := k) HG.out (k := q) (by omega) _ (mid_mem (j := j) HX.out) (mid_len hl40) false
                  rw [flags_fst, HD.out, roundT_append, HF.out, HF2.out] at h
                  exact h
                have hta : ta < k := by omega
                have hfa : fa < k := by omega
                have hs4 := HGR4.out.size
                obtain ⟨x, hx⟩ : ∃ x, d2.getD fa 0 = x := ⟨_, rfl⟩
                obtain ⟨y, hy⟩ : ∃ y, d2.getD ta 0 = y := ⟨_, rfl⟩
                have bx := hbdd fa
                have bY := hbdd ta
                have ca := own_cell HOW4.out hfa
                have cb := own_cell HOW4.out hta
                rw [hx] at bx ca
                rw [hy] at bY cb
                obtain ⟨bx0, bx1⟩ := bx
                obtain ⟨by0, by1⟩ := bY
                have HXX := Lib.hid hx
                have HYY := Lib.hid hy
                have fb := HOW4.out.frozenAt ta
                have fa' := HOW4.out.frozenAt fa
                have n2 := (gro_cell HGR4.out (by omega) (by omega)).trans k2
                have i0 : (0 : Int) ≤ (fa : Int) := by omega
                have i1 : (fa : Int) < (k : Int) := by omega
                have i2 : (0 : Int) ≤ (ta : Int) := by omega
                have i3 : (ta : Int) < (k : Int) := by omega
                clear hbdd hx hy k2
                rcases j with _ | _ | j
                · have p0 := (gro_cell HGR4.out (by omega) (by omega)).trans m0
                  have p1 := (gro_cell HGR4.out (by omega) (by omega)).trans m1
                  have p2 := (gro_cell HGR4.out (by omega) (by omega)).trans r0
                  clear m0 m1 m2 m3 r0 r1
                  by_cases g1 : 0 ≤ x
                  · by_cases g2 : y < 0
                    · have e1 : decide (0 ≤ x) = true := decide_eq_true g1
                      have e2 : decide (y < 0) = true := decide_eq_true g2
                      go_wp2_with fail
                      go_quiet (fail)
                      go_wp2_with fail
                      go_quiet (fail)
                      go_wp2
                      all_goals first
                        | (refine ⟨⟨1, d2.set ta (x + s), by omega, by go_num, Lib.hid ((rtwo0 HF2.out).trans (relax_yes HXX.out HYY.out (by omega))), Lib.hid (own_setI (own_drN HOW4.out _) ta (x + s)), Lib.hid (only_setCell (gro_drN HGR4.out _) ta _)⟩, by simp [intOf]⟩)
                        | (refine ⟨⟨1, d2, by omega, by go_num, Lib.hid ((rtwo0 HF2.out).trans (relax_no HXX.out HYY.out (by omega))), Lib.hid (own_drN HOW4.out _), Lib.hid (gro_drN HGR4.out _)⟩, by simp [intOf]⟩)
                    · have e1 : decide (0 ≤ x) = true := decide_eq_true g1
                      have e2 : decide (y < 0) = false := decide_eq_false g2
                      have e3 : IntKind.i64.wrap (x + s) = x + s := IntWalk.i64_in _ (by omega)
                      go_wp2_with fail
                      go_quiet (fail)
                      go_wp2_with fail
                      go_quiet (fail)
                      clear e3
                      go_wp2
                      all_goals first
                        | (refine ⟨⟨1, d2.set ta (x + s), by omega, by go_num, Lib.hid ((rtwo0 HF2.out).trans (relax_yes HXX.out HYY.out (by omega))), Lib.hid (own_setI (own_drN HOW4.out _) ta (x + s)), Lib.hid (only_setCell (gro_drN HGR4.out _) ta _)⟩, by simp [intOf]⟩)
                        | (refine ⟨⟨1, d2, by omega, by go_num, Lib.hid ((rtwo0 HF2.out).trans (relax_no HXX.out HYY.out (by omega))), Lib.hid (own_drN HOW4.out _), Lib.hid (gro_drN HGR4.out _)⟩, by simp [intOf]⟩)
                  · have e1 : decide (0 ≤ x) = false := decide_eq_false g1
                    go_wp2_with fail
                    go_quiet (fail)
                    go_wp2_with fail
                    go_quiet (fail)
                    go_wp2
                    all_goals first
                      | (refine ⟨⟨1, d2.set ta (x + s), by omega, by go_num, Lib.hid ((rtwo0 HF2.out).trans (relax_yes HXX.out HYY.out (by omega))), Lib.hid (own_setI (own_drN HOW4.out _) ta (x + s)), Lib.hid (only_setCell (gro_drN HGR4.out _) ta _)⟩, by simp [intOf]⟩)
                      | (refine ⟨⟨1, d2, by omega, by go_num, Lib.hid ((rtwo0 HF2.out).trans (relax_no HXX.out HYY.out (by omega))), Lib.hid (own_drN HOW4.out _), Lib.hid (gro_drN HGR4.out _)⟩, by simp [intOf]⟩)
                · have p0 := (gro_cell HGR4.out (by omega) (by omega)).trans m2
                  have p1 := (gro_cell HGR4.out (by omega) (by omega)).trans m3
                  have p2 := (gro_cell HGR4.out (by omega) (by omega)).trans r1
                  clear m0 m1 m2 m3 r0 r1
                  by_cases g1 : 0 ≤ y
                  · by_cases g2 : x < 0
                    · have e1 : decide (0 ≤ y) = true := decide_eq_true g1
                      have e2 : decide (x < 0) = true := decide_eq_true g2
                      go_wp2_with fail
                      go_quiet (fail)
                      go_wp2_with fail
                      go_quiet (fail)
                      go_wp2
                      all_goals first
                        | (refine ⟨⟨2, d2.set fa (y + s), by omega, by go_num, Lib.hid ((rtwo1 HF2.out).trans (relax_yes HYY.out HXX.out (by omega))), Lib.hid (own_setI (own_drN HOW4.out _) fa (y + s)), Lib.hid (only_setCell (gro_drN HGR4.out _) fa _)⟩, by simp [intOf]⟩)
                        | (refine ⟨⟨2, d2, by omega, by go_num, Lib.hid ((rtwo1 HF2.out).trans (relax_no HYY.out HXX.out (by omega))), Lib.hid (own_drN HOW4.out _), Lib.hid (gro_drN HGR4.out _)⟩, by simp [intOf]⟩)
                    · have e1 : decide (0 ≤ y) = true := decide_eq_true g1
                      have e2 : decide (x < 0) = false := decide_eq_false g2
                      have e3 : IntKind.i64.wrap (y + s) = y + s := IntWalk.i64_in _ (by omega)
                      go_wp2_with fail
                      go_quiet (fail)
                      go_wp2_with fail
                      go_quiet (fail)
                      clear e3
                      go_wp2
                      all_goals first
                        | (refine ⟨⟨2, d2.set fa (y + s), by omega, by go_num, Lib.hid ((rtwo1 HF2.out).trans (relax_yes HYY.out HXX.out (by omega))), Lib.hid (own_setI (own_drN HOW4.out _) fa (y + s)), Lib.hid (only_setCell (gro_drN HGR4.out _) fa _)⟩, by simp [intOf]⟩)
                        | (refine ⟨⟨2, d2, by omega, by go_num, Lib.hid ((rtwo1 HF2.out).trans (relax_no HYY.out HXX.out (by omega))), Lib.hid (own_drN HOW4.out _), Lib.hid (gro_drN HGR4.out _)⟩, by simp [intOf]⟩)
                  · have e1 : decide (0 ≤ y) = false := decide_eq_false g1
                    go_wp2_with fail
                    go_quiet (fail)
                    go_wp2_with fail
                    go_quiet (fail)
                    go_wp2
                    all_goals first
                      | (refine ⟨⟨2, d2.set fa (y + s), by omega, by go_num, Lib.hid ((rtwo1 HF2.out).trans (relax_yes HYY.out HXX.out (by omega))), Lib.hid (own_setI (own_drN HOW4.out _) fa (y + s)), Lib.hid (only_setCell (gro_drN HGR4.out _) fa _)⟩, by simp [intOf]⟩)
                      | (refine ⟨⟨2, d2, by omega, by go_num, Lib.hid ((rtwo1 HF2.out).trans (relax_no HYY.out HXX.out (by omega))), Lib.hid (own_drN HOW4.out _), Lib.hid (gro_drN HGR4.out _)⟩, by simp [intOf]⟩)
                · obtain rfl : j = 0 := by omega
                  go_wp2
                  refine ⟨⟨i + 1, d2, by omega, by go_num, Lib.hid ?_, HOW4, Lib.hid (gro_trans HGR3.out HGR4.out)⟩, by simp [intOf]; omega⟩
                  have e := HF2.out
                  rw [List.take_of_length_le (by simp [arcs2])] at e
                  rw [arcs_snoc HX.out, roundT_append, HF.out, e]
            · obtain rfl : i = l.length := by omega
              have e := HF.out
              rw [List.take_length] at e
              go_wp2
              refine ⟨⟨q + 1, by omega, by go_num, Lib.hid ?_, HGR2⟩, by simp [intOf]; omega⟩
              show wB.ownsRow w.heap.size 3 1 (.slice (some ⟨g, 0, none⟩) k k) k (ints (roundT (arcs l) (iterT (arcs l) (startT k src) q)))
              rw [HD.out, e]
              exact HOW2.out
        · obtain rfl : q = k := by omega
          go_wp2
          go_ret
          refine ⟨_, rfl, ?_, gro_new HB2.out HGRq.out HGE.out⟩
          have hd : (distT q (arcs l) src).length = q := by unfold distT; rw [iterT_len, startT_len]
          rw [hd]; exact HOWq.out
end Go.Proofs.Ytahehdgkbhjpoaa

namespace Go.Proofs.Ytahehdgkbhjpoaa
set_option linter.unusedVariables false
set_option linter.unusedSimpArgs false
open Go.RowKit

def pickT (o x : Int) : Int := if 0 ≤ x ∧ (o < 0 ∨ x < o) then x else o
def mergeT (d e : List Int) : List Int := List.zipWith pickT d e
def coverL (n : Nat) (ar : List Arc) (q : List Int) : List Int := q.foldl (fun d s => mergeT d (distT n ar s.toNat)) (List.replicate n (-1))
def mixT (d e : List Int) (j : Nat) : List Int := (mergeT d e).take j ++ d.drop j
theorem distT_len (n : Nat) (ar : List Arc) (s : Nat) : (distT n ar s).length = n := by unfold distT; rw [iterT_len, startT_len]
theorem mergeT_len {d e : List Int} {n : Nat} (hd : d.length = n) (he : e.length = n) : (mergeT d e).length = n := by unfold mergeT; simp [hd, he]
theorem mixT_zero (d e : List Int) : mixT d e 0 = d := by simp [mixT]
theorem mixT_full {d e : List Int} {n : Nat} (hd : d.length = n) (he : e.length = n) : mixT d e n = mergeT d e := by
  unfold mixT; rw [List.take_of_length_le (by rw [mergeT_len hd he]; omega), List.drop_eq_nil_of_le (by omega), List.append_nil]
theorem mixT_len {d e : List Int} {n j : Nat} (hd : d.length = n) (he : e.length = n) (hj : j ≤ n) : (mixT d e j).length = n := by
  unfold mixT; rw [List.length_append, List.length_take, mergeT_len hd he, List.length_drop]; omega
theorem mixT_getD {d e : List Int} {n j : Nat} (hd : d.length = n) (he : e.length = n) (hj : j < n) : (mixT d e j).getD j 0 = d.getD j 0 := by
  unfold mixT
  simp only [List.getD]
  rw [List.getElem?_append_right (by rw [List.length_take, mergeT_len hd he]; omega), List.length_take, mergeT_len hd he, List.getElem?_drop]
  congr 2; omega
theorem mixT_set {d e : List Int} {n j : Nat} (hd : d.length = n) (he : e.length = n) (hj : j < n) : (mixT d e j).set j (pickT (d.getD j 0) (e.getD j 0)) = mixT d e (j + 1) := by
  have hm : (mergeT d e)[j]? = some (pickT (d.getD j 0) (e.getD j 0)) := by
    unfold mergeT
    simp [List.getElem?_zipWith, List.getD, List.getElem?_eq_getElem (show j < d.length by omega), List.getElem?_eq_getElem (show j < e.length by omega)]
  unfold mixT
  have hl : ((mergeT d e).take j).length = j := by rw [List.length_take, mergeT_len hd he]; omega
  rw [List.set_append_right (h := by omega), hl, Nat.sub_self, List.drop_eq_getElem_cons (show j < d.length by omega), List.set_cons_zero, take_succ_of hm, List.append_assoc]
  rfl
theorem pick_yes {o x : Int} (h : 0 ≤ x ∧ (o < 0 ∨ x < o)) : pickT o x = x := by unfold pickT; rw [if_pos h]
theorem pick_no {o x : Int} (h : ¬ (0 ≤ x ∧ (o < 0 ∨ x < o))) : pickT o x = o := by unfold pickT; rw [if_neg h]
theorem mix_yes {d e : List Int} {n j : Nat} {o x : Int} (hd : d.length = n) (he : e.length = n) (hj : j < n) (ho : d.getD j 0 = o) (hx : e.getD j 0 = x) (h : 0 ≤ x ∧ (o < 0 ∨ x < o)) : (mixT d e j).set j x = mixT d e (j + 1) := by
  rw [← mixT_set hd he hj, ho, hx, pick_yes h]
theorem mix_no {d e : List Int} {n j : Nat} {o x : Int} (hd : d.length = n) (he : e.length = n) (hj : j < n) (ho : d.getD j 0 = o) (hx : e.getD j 0 = x) (h : ¬ (0 ≤ x ∧ (o < 0 ∨ x < o))) : mixT d e j = mixT d e (j + 1) := by
  rw [← mixT_set hd he hj, ho, hx, pick_no h]
  have h1 : (mixT d e j).getD j 0 = o := by rw [mixT_getD hd he hj, ho]
  have h2 : j < (mixT d e j).length := by rw [mixT_len hd he (by omega)]; exact hj
  rw [← h1]
  simp [List.getD, List.getElem?_eq_getElem h2]
theorem coverL_len (n : Nat) (ar : List Arc) (q : List Int) : (coverL n ar q).length = n := by
  unfold coverL
  have : ∀ (q d : List Int), d.length = n → (q.foldl (fun d s => mergeT d (distT n ar s.toNat)) d).length = n := by
    intro q
    induction q with
    | nil => intro d h; exact h
    | cons s q ih => intro d h; exact ih _ (mergeT_len h (distT_len n ar _))
  exact this q _ (by simp)
theorem coverL_snoc (n : Nat) (ar : List Arc) {q : List Int} {i : Nat} {s : Int} (h : q[i]? = some s) : coverL n ar (q.take (i + 1)) = mergeT (coverL n ar (q.take i)) (distT n ar s.toNat) := by
  unfold coverL; rw [take_succ_of h, List.foldl_append]; rfl

set_option maxRecDepth 100000 in
set_option maxHeartbeats 4000000 in
theorem coverTimes_c (n : Nat) (s v : Value) (l : List St) (q : List Int) (B : Nat) (w : World) (hg : goodTown n l = true) (hq : ∀ x ∈ q, 0 ≤ x ∧ x ≤ (n : Int) - 1) (t0 : w.cell? ⟨B, 0, none⟩ = some (.int .i64 n)) (t1 : w.cell? ⟨B, 1, none⟩ = some s) (hr : Rd w s l.length (l.flatMap St.cells)) (hv : RdI w v q) :
    Calls Try.prog 62 #[.pointer (some ⟨B, 0, none⟩), v] w (OwnI (coverL n (arcs l) q) w) := by
  obtain ⟨A, c, rfl, hc, hm, hv⟩ := hv
  rw [maxLen_eq] at hm
  have hB : B < w.heap.size := World.block_lt_of_cell? w _ t0
  obtain ⟨hn1, hn2, hl40, _⟩ := goodTown_true hg
  have HG := Lib.hid hg
  have HR := Lib.hid hr
  have HV := Lib.hid hv
  have HQ := Lib.hid hq
  clear hg hr hv hq
  go_enter Try.func62, Try.ntmps62
  go_wp2_with fail
  refine (repeat_c _ (-1) n _ (rd_new w rfl (Nat.le_refl _) (by rw [maxLen_eq]; simp)) (by omega) (by omega)).mono ?_
  rintro e w2 ⟨v1, rfl, ho, hb⟩
  rw [List.length_replicate] at ho
  obtain ⟨g, cap, rfl, hbg, hgl, hcap, hcm⟩ := own_shape ho (by omega)
  have hg1 : w.heap.size ≤ g := by simp at hbg; omega
  have HB2 : Hid (Below w.heap.size w w2) := Lib.hid (bel_then (bel_al (Below.refl _ _) _) hb)
  have HO := Lib.hid (own_base (base' := w.heap.size) ho (by simp))
  have HGE : Hid (∀ q, some g = some q → w.heap.size ≤ q) := Lib.hid (fun q e => by have := Option.some.inj e; omega)
  have HT0 := Lib.hid t0
  have HT1 := Lib.hid t1
  clear ho hb hbg t0 t1
  go_wp2_with fail
  go_loopw [18] (fun v18 wr => ∃ (i : Nat) (d : List Int), i ≤ q.length ∧ v18 = .int .i64 i ∧ Hid (coverL n (arcs l) (q.take i) = d) ∧ Hid (wr.ownsRow w.heap.size 3 1 (.slice (some ⟨g, 0, none⟩) n cap) n (ints d)) ∧ Hid (w2.grownBy wr (some g))) (fun v18 _ => q.length - (intOf v18).toNat)
  case atStart => exact ⟨0, _, Nat.zero_le _, rfl, Lib.hid rfl, HO, Lib.hid (World.grownBy.refl _ _)⟩
  case round =>
    obtain ⟨i, d, hi, rfl, HD, HOW, HGR⟩ := hrel
    obtain ⟨wA, rfl⟩ : ∃ wA : World, wA = wr := ⟨_, rfl⟩
    by_cases hlt : i < q.length
    · have hbA : Below w.heap.size w wA := gro_new HB2.out HGR.out HGE.out
      obtain ⟨b, off, rfl, hbl, hcell⟩ := HV.out (by omega)
      have hx : q[i]? = some q[i] := by simp [hlt]
      generalize q[i] = x at hx
      have c0 := cell_at hcell hbA hbl (ints_get hx)
      have hxb := HQ.out x (List.mem_of_getElem? hx)
      obtain ⟨xn, rfl⟩ := Int.eq_ofNat_of_zero_le hxb.1
      have hxn : xn < n := by omega
      have HX := Lib.hid hx
      have hs2 := HGR.out.size
      have HBA := Lib.hid hbA
      clear hcell hbA hx hxb
      go_wp2_with fail
      refine (timesI_c n _ l B xn _ HG.out hxn ((HBA.out.cell (p := ⟨B, 0, none⟩) hB).trans HT0.out) ((HBA.out.cell (p := ⟨B, 1, none⟩) hB).trans HT1.out) (rd_below HR.out HBA.out)).mono ?_
      rintro e w5 ⟨v5, rfl, ho5, hb5⟩
      rw [distT_len] at ho5
      obtain ⟨h, cap5, rfl, hbh, hhl, hcap5, hcm5⟩ := own_shape ho5 (by omega)
      have HB5 := Lib.hid hb5
      have HO5 := Lib.hid ho5
      have hs5 := hb5.size
      have hgA : g < wA.heap.size := (HOW.out.lt g rfl).2
      have HGR5 : Hid (w2.grownBy w5 (some g)) := Lib.hid (gro_bel HGR.out hb5)
      have HOW5 := Lib.hid (own_below HOW.out hb5)
      obtain ⟨ev, hev⟩ : ∃ ev, distT n (arcs l) xn = ev := ⟨_, rfl⟩
      have hel : ev.length = n := by rw [← hev, distT_len]
      rw [hev] at HO5
      have HEV := Lib.hid hev
      have HEL := Lib.hid hel
      have HDL : Hid (d.length = n) := Lib.hid (by rw [← HD.out, coverL_len])
      clear hb5 ho5 c0 hev hel
      go_wp2_with fail
      go_loopw [26] (fun v26 wr2 => ∃ (j : Nat), j ≤ n ∧ v26 = .int .i64 j ∧ Hid (wr2.ownsRow w.heap.size 3 1 (.slice (some ⟨g, 0, none⟩) n cap) n (ints (mixT d ev j))) ∧ Hid (w5.grownBy wr2 (some g))) (fun v26 _ => n - (intOf v26).toNat)
      case atStart => exact ⟨0, Nat.zero_le _, rfl, by rw [mixT_zero]; exact HOW5, Lib.hid (World.grownBy.refl _ _)⟩
      case round =>
        obtain ⟨j, hj, rfl, HOWj, HGRj⟩ := hrel
        obtain ⟨wB, rfl⟩ : ∃ wB : World, wB = wr := ⟨_, rfl⟩
        by_cases hjn : j < n
        · have co := own_cell HOWj.out hjn
          rw [mixT_getD HDL.out HEL.out hjn] at co
          have fo := HOWj.out.frozenAt j
          have ce := (gro_cell (o := j) HGRj.out hhl (by omega)).trans (own_cell HO5.out hjn)
          obtain ⟨o, ho⟩ : ∃ o, d.getD j 0 = o := ⟨_, rfl⟩
          obtain ⟨x, hx⟩ : ∃ x, ev.getD j 0 = x := ⟨_, rfl⟩
          rw [ho] at co
          rw [hx] at ce
          have HOO := Lib.hid ho
          have HXX := Lib.hid hx
          clear ho hx
          go_wp2
          all_goals first
            | (refine ⟨⟨j + 1, by omega, by go_num, Lib.hid ?_, Lib.hid (only_setCell HGRj.out j _)⟩, by simp [intOf]; omega⟩; rw [← mix_yes HDL.out HEL.out hjn HOO.out HXX.out (by omega)]; exact own_setI HOWj.out j x)
            | (refine ⟨⟨j + 1, by omega, by go_num, Lib.hid ?_, HGRj⟩, by simp [intOf]; omega⟩; rw [← mix_no HDL.out HEL.out hjn HOO.out HXX.out (by omega)]; exact HOWj.out)
        · obtain rfl : j = n := by omega
          go_wp2
          refine ⟨⟨i + 1, _, by omega, by go_num, Lib.hid rfl, Lib.hid ?_, Lib.hid (gro_trans HGR5.out HGRj.out)⟩, by simp [intOf]; omega⟩
          rw [coverL_snoc _ _ HX.out, HD.out, Int.toNat_natCast, HEV.out, ← mixT_full HDL.out HEL.out]
          exact HOWj.out
    · obtain rfl : i = q.length := by omega
      go_wp2
      go_ret
      refine ⟨_, rfl, ?_, gro_new HB2.out HGR.out HGE.out⟩
      have e := HD.out
      rw [List.take_length] at e
      rw [coverL_len, e]; exact HOW.out
end Go.Proofs.Ytahehdgkbhjpoaa

namespace Go.Proofs.Ytahehdgkbhjpoaa
set_option linter.unusedVariables false
set_option linter.unusedSimpArgs false
open Go.RowKit

set_option maxRecDepth 100000 in
set_option maxHeartbeats 4000000 in
theorem cvTimes_c (n : Nat) (s v : Value) (l : List St) (q : List Int) (w : World) (hg : goodTown n l = true) (hq : ∀ x ∈ q, 0 ≤ x ∧ x ≤ (n : Int) - 1) (hr : Rd w s l.length (l.flatMap St.cells)) (hv : RdI w v q) :
    Calls Try.prog 80 #[.agg #[.int .i64 n, s], v] w (OwnI (coverL n (arcs l) q) w) := by
  obtain ⟨A, c, rfl, hc, hm, hv⟩ := hv
  rw [maxLen_eq] at hm
  obtain ⟨hn1, hn2, hl40, _⟩ := goodTown_true hg
  obtain ⟨i0, hi, hz0, hz1, hz2⟩ := info_parts Try.infoInt
  have HG := Lib.hid hg
  have HR := Lib.hid hr
  have HV := Lib.hid hv
  have HQ := Lib.hid hq
  obtain ⟨As, cs, rfl, _⟩ := hr
  clear hg hv hq
  go_enter Try.func80, Try.ntmps80
  go_wp2_with (at_make; refine wpList_make_full _ rfl _ _ 27 rfl w.heap.size 3 i0 _ 1 Try.underlying27 hi hz0 hz1 _ _ _ _ n rfl rfl rfl rfl (by rw [hz2]; omega) (by rw [maxLen_eq]; omega) (by simp) ?_; intro w2 hown2 hg2; rw [made_ints, World.size_alloc] at hown2; have b0 : w2.cell? ⟨w.heap.size, 0, none⟩ = some (.int .i64 n) := (by rw [World.cell?_of_block (hg2.block w.heap.size (by simp) (by simp))]; simp [go_sem]); have b1 : w2.cell? ⟨w.heap.size, 1, none⟩ = some (.slice As l.length cs) := (by rw [World.cell?_of_block (hg2.block w.heap.size (by simp) (by simp))]; simp [go_sem]); have HB2 : Hid (Below w.heap.size w w2) := Lib.hid (bel_grown (bel_al (Below.refl _ _) _) hg2 (fun k h => by cases h)); have HO2 := Lib.hid hown2; clear hown2 hg2)
  obtain ⟨g, hgdef⟩ : ∃ g, g = w.heap.size + 1 := ⟨_, rfl⟩
  rw [← hgdef] at HO2 ⊢
  have hgw : w.heap.size < g := by omega
  have hg0 : w.heap.size ≤ g := by omega
  have HGE : Hid (∀ q, some g = some q → w.heap.size ≤ q) := Lib.hid (fun q e => by have := Option.some.inj e; omega)
  have hgs : g < w2.heap.size := (HO2.out.lt g rfl).2
  clear hgdef
  go_loopw [16] (fun v16 wr => ∃ k : Nat, k ≤ n ∧ v16 = .int .i64 k ∧ Hid (wr.ownsRow w.heap.size 3 1 (.slice (some ⟨g, 0, none⟩) n n) n (ints (fill1 n k))) ∧ Hid (w2.grownBy wr (some g))) (fun v16 _ => n - (intOf v16).toNat)
  case atStart => exact ⟨0, Nat.zero_le _, rfl, HO2, Lib.hid (World.grownBy.refl _ _)⟩
  case round =>
    obtain ⟨k, hk, rfl, HOW, HGR⟩ := hrel
    by_cases hlt : k < n
    · have c0 := own_cell HOW.out hlt
      have f0 := HOW.out.frozenAt k
      go_wp2
      refine ⟨⟨k + 1, by omega, by go_num, Lib.hid ?_, Lib.hid (only_setCell HGR.out _ _)⟩, by simp [intOf]; omega⟩
      have := own_setI HOW.out k (-1)
      rw [fill1_set hlt] at this
      exact this
    · have hkn : k = n := by omega
      subst hkn
      have HO3 : Hid (wr.ownsRow w.heap.size 3 1 (.slice (some ⟨g, 0, none⟩) k k) k (ints (List.replicate k (-1)))) := Lib.hid (by have h := HOW.out; rw [fill1_full] at h; exact h)
      have HG3 := HGR
      obtain ⟨wz, rfl⟩ : ∃ wz : World, wz = wr := ⟨_, rfl⟩
      go_wp2_with fail
      go_loopw [25] (fun v25 wr => ∃ (i : Nat) (d : List Int), i ≤ q.length ∧ v25 = .int .i64 i ∧ Hid (coverL k (arcs l) (q.take i) = d) ∧ Hid (wr.ownsRow w.heap.size 3 1 (.slice (some ⟨g, 0, none⟩) k k) k (ints d)) ∧ Hid (w2.grownBy wr (some g))) (fun v25 _ => q.length - (intOf v25).toNat)
      case atStart => exact ⟨0, _, Nat.zero_le _, rfl, Lib.hid rfl, HO3, HG3⟩
      case round =>
        obtain ⟨i, d, hi, rfl, HD, HOW, HGR⟩ := hrel
        obtain ⟨wA, rfl⟩ : ∃ wA : World, wA = wr := ⟨_, rfl⟩
        by_cases hlt : i < q.length
        · have hbA : Below w.heap.size w wA := gro_new HB2.out HGR.out HGE.out
          obtain ⟨b, off, rfl, hbl, hcell⟩ := HV.out (by omega)
          have hx : q[i]? = some q[i] := by simp [hlt]
          generalize q[i] = x at hx
          have c0 := cell_at hcell hbA hbl (ints_get hx)
          have hxb := HQ.out x (List.mem_of_getElem? hx)
          obtain ⟨xn, rfl⟩ := Int.eq_ofNat_of_zero_le hxb.1
          have hxn : xn < k := by omega
          have HX := Lib.hid hx
          have hs2 := HGR.out.size
          have HBA := Lib.hid hbA
          have z0 : wA.cell? ⟨w.heap.size, 0, none⟩ = some (.int .i64 k) := (gro_cell HGR.out (by omega) (by omega)).trans b0
          have z1 : wA.cell? ⟨w.heap.size, 1, none⟩ = some (.slice As l.length cs) := (gro_cell HGR.out (by omega) (by omega)).trans b1
          clear hcell hbA hx hxb
          go_wp2_with fail
          refine (toTimes_c k _ l xn _ HG.out hxn (rd_below HR.out HBA.out)).mono ?_
          rintro e w5 ⟨v5, rfl, ho5, hb5⟩
          rw [distT_len] at ho5
          obtain ⟨h, cap5, rfl, hbh, hhl, hcap5, hcm5⟩ := own_shape ho5 (by omega)
          have HB5 := Lib.hid hb5
          have HO5 := Lib.hid ho5
          have hs5 := hb5.size
          have hgA : g < wA.heap.size := (HOW.out.lt g rfl).2
          have HGR5 : Hid (w2.grownBy w5 (some g)) := Lib.hid (gro_bel HGR.out hb5)
          have HOW5 := Lib.hid (own_below HOW.out hb5)
          obtain ⟨ev, hev⟩ : ∃ ev, distT k (arcs l) xn = ev := ⟨_, rfl⟩
          have hel : ev.length = k := by rw [← hev, distT_len]
          rw [hev] at HO5
          have HEV := Lib.hid hev
          have HEL := Lib.hid hel
          have HDL : Hid (d.length = k) := Lib.hid (by rw [← HD.out, coverL_len])
          clear hb5 ho5 c0 hev hel z0 z1
          go_wp2_with fail
          go_loopw [33] (fun v33 wr2 => ∃ (j : Nat), j ≤ k ∧ v33 = .int .i64 j ∧ Hid (wr2.ownsRow w.heap.size 3 1 (.slice (some ⟨g, 0, none⟩) k k) k (ints (mixT d ev j))) ∧ Hid (w5.grownBy wr2 (some g))) (fun v33 _ => k - (intOf v33).toNat)
          case atStart => exact ⟨0, Nat.zero_le _, rfl, by rw [mixT_zero]; exact HOW5, Lib.hid (World.grownBy.refl _ _)⟩
          case round =>
            obtain ⟨j, hj, rfl, HOWj, HGRj⟩ := hrel
            obtain ⟨wB, rfl⟩ : ∃ wB : World, wB = wr := ⟨_, rfl⟩
            by_cases hjn : j < k
            · have co := own_cell HOWj.out hjn
              rw [mixT_getD HDL.out HEL.out hjn] at co
              have fo := HOWj.out.frozenAt j
              have ce := (gro_cell (o := j) HGRj.out hhl (by omega)).trans (own_cell HO5.out hjn)
              obtain ⟨o, ho⟩ : ∃ o, d.getD j 0 = o := ⟨_, rfl⟩
              obtain ⟨x, hx⟩ : ∃ x, ev.getD j 0 = x := ⟨_, rfl⟩
              rw [ho] at co
              rw [hx] at ce
              have HOO := Lib.hid ho
              have HXX := Lib.hid hx
              clear ho hx
              go_wp2
              all_goals first
                | (refine ⟨⟨j + 1, by omega, by go_num, Lib.hid ?_, Lib.hid (only_setCell HGRj.out j _)⟩, by simp [intOf]; omega⟩; rw [← mix_yes HDL.out HEL.out hjn HOO.out HXX.out (by omega)]; exact own_setI HOWj.out j x)
                | (refine ⟨⟨j + 1, by omega, by go_num, Lib.hid ?_, HGRj⟩, by simp [intOf]; omega⟩; rw [← mix_no HDL.out HEL.out hjn HOO.out HXX.out (by omega)]; exact HOWj.out)
            · obtain rfl : j = k := by omega
              go_wp2
              refine ⟨⟨i + 1, _, by omega, by go_num, Lib.hid rfl, Lib.hid ?_, Lib.hid (gro_trans HGR5.out HGRj.out)⟩, by simp [intOf]; omega⟩
              rw [coverL_snoc _ _ HX.out, HD.out, Int.toNat_natCast, HEV.out, ← mixT_full HDL.out HEL.out]
              exact HOWj.out
        · obtain rfl : i = q.length := by omega
          go_wp2
          go_ret
          refine ⟨_, rfl, ?_, gro_new HB2.out HGR.out HGE.out⟩
          have e := HD.out
          rw [List.take_length] at e
          rw [coverL_len, e]; exact HOW.out
end Go.Proofs.Ytahehdgkbhjpoaa

namespace Go.Proofs.Ytahehdgkbhjpoaa
set_option linter.unusedVariables false
set_option linter.unusedSimpArgs false
open Go.RowKit

def coverTimesV (n : Int) (l : List St) (q : List Int) : List Int × Bool := if goodSta n l q then (coverL n.toNat (arcs l) q, true) else ([], false)
theorem goodSta_true {n : Int} {l : List St} {q : List Int} (h : goodSta n l q = true) : goodTown n l = true ∧ (∀ x ∈ q, 0 ≤ x ∧ x ≤ n - 1) ∧ q.length ≤ 6 := by
  simp only [goodSta, Bool.and_eq_true, decide_eq_true_eq] at h
  exact ⟨h.1, rising_mem h.2.1, h.2.2⟩
theorem coverTimesV_len (n : Int) (l : List St) (q : List Int) : (coverTimesV n l q).1.length ≤ 1000000 := by
  unfold coverTimesV
  split
  · rename_i h
    have := goodTown_true (goodSta_true h).1
    simp only [coverL_len]; omega
  · simp
theorem nat_of {n : Int} (h : 1 ≤ n) : ∃ m : Nat, n = (m : Int) := ⟨n.toNat, by omega⟩

set_option maxHeartbeats 1000000 in
theorem coverTimesI_c (n : Int) (s : Value) (l : List St) (v : Value) (q : List Int) (w : World) (hr : Rd w s l.length (l.flatMap St.cells)) (hq : RdI w v q) :
    Calls Try.prog 28 #[.agg #[.int .i64 n, s], v] w (OwnIB (coverTimesV n l q) w) := by
  have HR := Lib.hid hr
  have HQ := Lib.hid hq
  clear hr hq
  have hbx : ∀ o, Below w.heap.size w (w.alloc o) := fun o => bel_al (Below.refl _ _) o
  by_cases hok : goodSta n l q = true
  · have hk := goodSta_true hok
    obtain ⟨hg, hqm, _⟩ := hk
    obtain ⟨m, rfl⟩ := nat_of (goodTown_true hg).1
    have HF : Hid (coverTimesV m l q = (coverL m (arcs l) q, true)) := Lib.hid (by unfold coverTimesV; rw [if_pos hok, Int.toNat_natCast])
    have HG := Lib.hid hg
    have HM := Lib.hid hqm
    have HOK := Lib.hid hok
    clear hg hqm hok
    go_enter Try.func28, Try.ntmps28
    go_wp2_with fail
    generalize hw1 : World.alloc w _ = w1
    have k0 : w1.cell? ⟨w.heap.size, 0, none⟩ = some (.int .i64 m) := by subst hw1; simp [go_sem]
    have k1 : w1.cell? ⟨w.heap.size, 1, none⟩ = some s := by subst hw1; simp [go_sem]
    have hb1 : Below w.heap.size w w1 := by subst hw1; exact hbx _
    have hz : w.heap.size < w1.heap.size := by subst hw1; simp
    clear hw1 hbx
    refine (areStations_c m s _ l q _ _ k0 k1 (rd_below HR.out hb1) (rdi_below HQ.out hb1)).mono ?_; rw [HOK.out]; rintro e w2 ⟨rfl, hb2⟩
    have hb12 := bel_then hb1 hb2
    go_wp2_with fail
    refine (coverTimes_c m s _ l q _ _ HG.out HM.out ((hb2.cell hz).trans k0) ((hb2.cell hz).trans k1) (rd_below HR.out hb12) (rdi_below HQ.out hb12)).mono ?_; rintro e w3 ⟨x, rfl, ho, hb3⟩
    go_wp2
    go_ret2
    rw [HF.out]
    exact ⟨_, rfl, own_base ho hb12.size, bel_then hb12 hb3⟩
  · have hok : goodSta n l q = false := by simpa using hok
    have HF : Hid (coverTimesV n l q = ([], false)) := Lib.hid (by unfold coverTimesV; rw [hok]; rfl)
    go_enter Try.func28, Try.ntmps28
    go_wp2_with (go_at_call 57; refine (areStations_c n s _ l q _ _ (by simp [go_sem]) (by simp [go_sem]) (rd_below HR.out (hbx _)) (rdi_below HQ.out (hbx _))).mono ?_; rw [hok]; rintro e w' ⟨rfl, hb1⟩)
    go_ret2
    rw [HF.out]
    exact ⟨_, rfl, World.ownsRow_nil _ _ _ _, bel_then (hbx _) hb1⟩

set_option maxHeartbeats 1000000 in
theorem coverTimesS_c (n : Int) (s : Value) (l : List St) (v : Value) (q : List Int) (w : World) (hr : Rd w s l.length (l.flatMap St.cells)) (hq : RdI w v q) :
    Calls Try.prog 29 #[.agg #[.int .i64 n, s], v] w (OwnIB (coverTimesV n l q) w) := by
  have HR := Lib.hid hr
  have HQ := Lib.hid hq
  clear hr hq
  have hbx : ∀ o, Below w.heap.size w (w.alloc o) := fun o => bel_al (Below.refl _ _) o
  by_cases hok : goodSta n l q = true
  · have hk := goodSta_true hok
    obtain ⟨hg, hqm, _⟩ := hk
    obtain ⟨m, rfl⟩ := nat_of (goodTown_true hg).1
    have HF : Hid (coverTimesV m l q = (coverL m (arcs l) q, true)) := Lib.hid (by unfold coverTimesV; rw [if_pos hok, Int.toNat_natCast])
    have HG := Lib.hid hg
    have HM := Lib.hid hqm
    have HOK := Lib.hid hok
    clear hg hqm hok
    go_enter Try.func29, Try.ntmps29
    go_wp2_with fail
    generalize hw1 : World.alloc w _ = w1
    have k0 : w1.cell? ⟨w.heap.size, 0, none⟩ = some (.int .i64 m) := by subst hw1; simp [go_sem]
    have k1 : w1.cell? ⟨w.heap.size, 1, none⟩ = some s := by subst hw1; simp [go_sem]
    have hb1 : Below w.heap.size w w1 := by subst hw1; exact hbx _
    have hz : w.heap.size < w1.heap.size := by subst hw1; simp
    clear hw1 hbx
    refine (cvStations_c m s _ l q _ (rd_below HR.out hb1) (rdi_below HQ.out hb1)).mono ?_; rw [HOK.out]; rintro e w2 ⟨rfl, hb2⟩
    have hb12 := bel_then hb1 hb2
    have z0 := (hb2.cell (p := ⟨w.heap.size, 0, none⟩) hz).trans k0
    have z1 := (hb2.cell (p := ⟨w.heap.size, 1, none⟩) hz).trans k1
    go_wp2_with fail
    refine (cvTimes_c m s _ l q _ HG.out HM.out (rd_below HR.out hb12) (rdi_below HQ.out hb12)).mono ?_; rintro e w3 ⟨x, rfl, ho, hb3⟩
    go_wp2
    go_ret2
    rw [HF.out]
    exact ⟨_, rfl, own_base ho hb12.size, bel_then hb12 hb3⟩
  · have hok : goodSta n l q = false := by simpa using hok
    have HF : Hid (coverTimesV n l q = ([], false)) := Lib.hid (by unfold coverTimesV; rw [hok]; rfl)
    go_enter Try.func29, Try.ntmps29
    go_wp2_with (go_at_call 79; refine (cvStations_c n s _ l q _ (rd_below HR.out (hbx _)) (rdi_below HQ.out (hbx _))).mono ?_; rw [hok]; rintro e w' ⟨rfl, hb1⟩)
    go_ret2
    rw [HF.out]
    exact ⟨_, rfl, World.ownsRow_nil _ _ _ _, bel_then (hbx _) hb1⟩
end Go.Proofs.Ytahehdgkbhjpoaa

namespace Go.Proofs.Ytahehdgkbhjpoaa
set_option linter.unusedVariables false
set_option linter.unusedSimpArgs false
open Go.RowKit

theorem isLimit_c (a : Int) (w : World) : Calls Try.prog 58 #[.int .i64 a] w fun e w' => e = .returned (.bool (inB a 0 36000)) ∧ w = w' := by
  go_enter Try.func58, Try.ntmps58
  go_wp2_with (go_at_call 64; refine (inside_c _ _ _ _).mono ?_; rintro e w' ⟨rfl, rfl⟩)
  go_ret
  exact ⟨rfl, rfl⟩
theorem dsLimit_c (a : Int) (w : World) : Calls Try.prog 69 #[.int .i64 a] w fun e w' => e = .returned (.bool (inB a 0 36000)) ∧ w = w' := by
  go_enter Try.func69, Try.ntmps69
  go_wp2_with (go_at_call 85; refine (l1In_c _ _ _ _).mono ?_; rintro e w' ⟨rfl, rfl⟩)
  go_ret
  exact ⟨rfl, rfl⟩
def askC (n : Int) (l : List St) (q : List Int) (a : Int) : Bool := goodSta n l q && inB a 0 36000
set_option maxHeartbeats 1000000 in
theorem cvAsked_c (n : Int) (s : Value) (l : List St) (v : Value) (q : List Int) (a : Int) (w : World) (hr : Rd w s l.length (l.flatMap St.cells)) (hq : RdI w v q) :
    Calls Try.prog 60 #[.agg #[.int .i64 n, s], v, .int .i64 a] w fun e w' => e = .returned (.bool (askC n l q a)) ∧ Below w.heap.size w w' := by
  have HR := Lib.hid hr
  have HQ := Lib.hid hq
  clear hr hq
  have hbx : ∀ o, Below w.heap.size w (w.alloc o) := fun o => bel_al (Below.refl _ _) o
  by_cases hok : goodSta n l q = true
  · have HF : Hid (askC n l q a = inB a 0 36000) := Lib.hid (by unfold askC; rw [hok]; rfl)
    go_enter Try.func60, Try.ntmps60
    go_wp2_with (first | (go_at_call 79; refine (cvStations_c n s _ l q _ (rd_below HR.out (hbx _)) (rdi_below HQ.out (hbx _))).mono ?_; rw [hok]; rintro e w' ⟨rfl, hb1⟩) | (go_at_call 69; refine (dsLimit_c _ _).mono ?_; rintro e w' ⟨rfl, rfl⟩))
    go_ret
    exact ⟨ret_b HF.out.symm, bel_then (hbx _) hb1⟩
  · have hok : goodSta n l q = false := by simpa using hok
    have HF : Hid (askC n l q a = false) := Lib.hid (by unfold askC; rw [hok]; rfl)
    go_enter Try.func60, Try.ntmps60
    go_wp2_with (go_at_call 79; refine (cvStations_c n s _ l q _ (rd_below HR.out (hbx _)) (rdi_below HQ.out (hbx _))).mono ?_; rw [hok]; rintro e w' ⟨rfl, hb1⟩)
    go_ret
    exact ⟨ret_b HF.out.symm, bel_then (hbx _) hb1⟩

/-- The places below k that a predicate picks. -/
def selI (p : Nat → Bool) (k : Nat) : List Int := ((List.range k).filter p).map fun (i : Nat) => (i : Int)
theorem selI_yes {p : Nat → Bool} {k : Nat} (h : p k = true) : selI p (k + 1) = selI p k ++ [(k : Int)] := by
  unfold selI; rw [List.range_succ, List.filter_append, List.map_append]; simp [h]
theorem selI_no {p : Nat → Bool} {k : Nat} (h : p k = false) : selI p (k + 1) = selI p k := by
  unfold selI; rw [List.range_succ, List.filter_append, List.map_append]; simp [h]
theorem selI_len (p : Nat → Bool) (k : Nat) : (selI p k).length ≤ k := by
  unfold selI; rw [List.length_map]; have := List.length_filter_le p (List.range k); simp at this; omega
theorem selI_mem {p : Nat → Bool} {k : Nat} {x : Int} : x ∈ selI p k ↔ ∃ i : Nat, x = (i : Int) ∧ i < k ∧ p i = true := by
  unfold selI
  simp only [List.mem_map, List.mem_filter, List.mem_range]
  exact ⟨fun ⟨i, h1, h2⟩ => ⟨i, h2.symm, h1.1, h1.2⟩, fun ⟨i, h1, h2, h3⟩ => ⟨i, ⟨h2, h3⟩, h1.symm⟩⟩
def covP (d : List Int) (a : Int) (b : Bool) (i : Nat) : Bool := inB (d.getD i 0) 0 a == b
/-- The nodes whose time lies within the limit (or does not), up to one. -/
def covIdx (d : List Int) (a : Int) (b : Bool) (k : Nat) : List Int := selI (covP d a b) k
theorem covIdx_yes {d : List Int} {a : Int} {b : Bool} {k : Nat} (h : inB (d.getD k 0) 0 a = b) : covIdx d a b (k + 1) = covIdx d a b k ++ [(k : Int)] := selI_yes (by unfold covP; rw [h]; simp)
theorem covIdx_no {d : List Int} {a : Int} {b : Bool} {k : Nat} (h : ¬ (inB (d.getD k 0) 0 a = b)) : covIdx d a b (k + 1) = covIdx d a b k := selI_no (by unfold covP; exact beq_eq_false_iff_ne.2 h)
theorem covIdx_len (d : List Int) (a : Int) (b : Bool) (k : Nat) : (covIdx d a b k).length ≤ k := selI_len _ _

set_option maxRecDepth 100000 in
set_option maxHeartbeats 4000000 in
theorem coveredNodes_c (n : Nat) (s v : Value) (l : List St) (q : List Int) (a : Int) (bb : Bool) (B : Nat) (w : World) (hg : goodTown n l = true) (hq : ∀ x ∈ q, 0 ≤ x ∧ x ≤ (n : Int) - 1) (t0 : w.cell? ⟨B, 0, none⟩ = some (.int .i64 n)) (t1 : w.cell? ⟨B, 1, none⟩ = some s) (hr : Rd w s l.length (l.flatMap St.cells)) (hv : RdI w v q) :
    Calls Try.prog 59 #[.pointer (some ⟨B, 0, none⟩), v, .int .i64 a, .bool bb] w (OwnI (covIdx (coverL n (arcs l) q) a bb n) w) := by
  have hc := coverTimes_c n s v l q B w hg hq t0 t1 hr hv
  have HC := Lib.hid hc
  obtain ⟨hn1, hn2, _, _⟩ := goodTown_true hg
  obtain ⟨i0, hi, hz0, hz1, hz2⟩ := info_parts Try.infoInt
  clear hc t0 t1 hr hv hg hq
  go_enter Try.func59, Try.ntmps59
  go_wp2_with fail
  refine HC.out.mono ?_
  rintro e w5 ⟨v5, rfl, ho5, hb5⟩
  rw [coverL_len] at ho5
  obtain ⟨d, hd⟩ : ∃ d, coverL n (arcs l) q = d := ⟨_, rfl⟩
  rw [hd] at ho5
  have HD := Lib.hid hd
  obtain ⟨h, cap5, rfl, hbh, hhl, hcap5, hcm5⟩ := own_shape ho5 (by omega)
  have HO5 := Lib.hid ho5
  have HB5 := Lib.hid hb5
  clear ho5 hb5 hd HC
  go_wp2_with fail
  go_loopw [9, 16] (fun v9 v16 wr => ∃ (k : Nat), k ≤ n ∧ v16 = .int .i64 k ∧ Hid (wr.ownsRow w5.heap.size 3 1 v9 (covIdx d a bb k).length (ints (covIdx d a bb k))) ∧ Hid (Below w5.heap.size w5 wr)) (fun _ v16 _ => n - (intOf v16).toNat)
  case atStart => exact ⟨0, Nat.zero_le _, rfl, Lib.hid (show w5.ownsRow w5.heap.size 3 1 (.slice none 0 0) 0 [] from World.ownsRow_nil _ _ _ _), Lib.hid (Below.refl _ _)⟩
  case round =>
    obtain ⟨k, hk, rfl, HOW, HBL⟩ := hrel
    obtain ⟨wA, rfl⟩ : ∃ wA : World, wA = wr := ⟨_, rfl⟩
    by_cases hlt : k < n
    · have ce := (HBL.out.cell (p := ⟨h, k, none⟩) hhl).trans (own_cell HO5.out hlt)
      have hcl := covIdx_len d a bb k
      obtain ⟨x, hx⟩ : ∃ x, d.getD k 0 = x := ⟨_, rfl⟩
      obtain ⟨L, hL⟩ : ∃ L, covIdx d a bb k = L := ⟨_, rfl⟩
      rw [hx] at ce
      rw [hL] at HOW hcl
      have HX := Lib.hid hx
      have HL := Lib.hid hL
      clear hx hL
      by_cases hyes : inB x 0 a = bb
      · have e0 : (inB x 0 a == bb) = true := by simp [hyes]
        have HY : Hid (covIdx d a bb (k + 1) = L ++ [(k : Int)]) := Lib.hid (by rw [covIdx_yes (by rw [HX.out]; exact hyes), HL.out])
        clear hyes
        go_wp2_with (first | (go_at_call 64; refine (inside_c _ _ _ _).mono ?_; rintro e w' ⟨rfl, rfl⟩) | (at_builtin; refine wpList_app_rd _ rfl _ _ 27 rfl w5.heap.size 3 i0 (.int .i64 0) 1 8 Try.underlying27 hi hz0 hz1 hz2 rfl (by decide) _ _ _ rfl (HOW.out.alloc _) _ 1 [.int .i64 k] rfl (rd_new _ rfl (Nat.le_refl _) (by rw [maxLen_eq]; omega)) rfl (ints_one [(k : Int)]) (by rw [maxLen_eq]; omega) (by omega) (by have := HBL.out.size; simp; omega) ?_; intro v' w7 hown' hgrow _))
        refine ⟨⟨k + 1, by omega, by go_num, Lib.hid ?_, Lib.hid (bel_grown (bel_al HBL.out _) hgrow (fun q e => (HOW.out.lt q e).1))⟩, by simp [intOf]; omega⟩
        rw [HY.out, ints_append, List.length_append]; exact hown'
      · have e0 : (inB x 0 a == bb) = false := by simp [hyes]
        have HN : Hid (covIdx d a bb (k + 1) = L) := Lib.hid (by rw [covIdx_no (by rw [HX.out]; exact hyes), HL.out])
        clear hyes
        go_wp2_with (go_at_call 64; refine (inside_c _ _ _ _).mono ?_; rintro e w' ⟨rfl, rfl⟩)
        exact ⟨⟨k + 1, by omega, by go_num, by rw [HN.out]; exact HOW, HBL⟩, by simp [intOf]; omega⟩
    · obtain rfl : k = n := by omega
      go_wp2
      go_ret
      refine ⟨_, rfl, ?_, bel_then HB5.out HBL.out⟩
      rw [HD.out]
      exact own_base HOW.out HB5.out.size
end Go.Proofs.Ytahehdgkbhjpoaa

namespace Go.Proofs.Ytahehdgkbhjpoaa
set_option linter.unusedVariables false
set_option linter.unusedSimpArgs false
open Go.RowKit

theorem askC_true {n : Int} {l : List St} {q : List Int} {a : Int} (h : askC n l q a = true) : goodSta n l q = true ∧ inB a 0 36000 = true ∧ goodTown n l = true ∧ (∀ x ∈ q, 0 ≤ x ∧ x ≤ n - 1) ∧ q.length ≤ 6 := by
  simp only [askC, Bool.and_eq_true] at h
  have h1 := goodSta_true h.1
  exact ⟨h.1, h.2, h1.1, h1.2.1, h1.2.2⟩
theorem sep_after {W : World} {v v' u : Value} (hs : ∀ q q', v.ownBlock = some q → u.ownBlock = some q' → q ≠ q') (h5 : v'.ownBlock = v.ownBlock ∨ v'.ownBlock = some W.heap.size) (lt : ∀ q', u.ownBlock = some q' → q' < W.heap.size) : ∀ q q', v'.ownBlock = some q → u.ownBlock = some q' → q ≠ q' := by
  intro q q' h1 h2
  rcases h5 with h | h
  · exact hs q q' (h ▸ h1) h2
  · rw [h] at h1
    have := Option.some.inj h1
    have := lt q' h2
    omega
theorem sep_symm {v u : Value} (hs : ∀ q q', v.ownBlock = some q → u.ownBlock = some q' → q ≠ q') : ∀ q q', u.ownBlock = some q → v.ownBlock = some q' → q ≠ q' := fun q q' h1 h2 e => hs q' q h2 h1 e.symm
theorem kept3 {a b : World} {base : Nat} {e : TypeId} {sz : Nat} {v v' : Value} {n : Nat} {xs : List Value} (h : a.ownsRow base e sz v n xs) (g : a.grownBy b v'.ownBlock) (sep : ∀ q q', v'.ownBlock = some q → v.ownBlock = some q' → q ≠ q') : b.ownsRow base e sz v n xs :=
  h.kept g (by
    cases hv : v.ownBlock with
    | none => exact .inl rfl
    | some q => exact .inr (fun hq => sep q q hq.symm hv rfl))

/-- Two slices of the call's own. -/
def OwnII (a b : List Int) (w : World) (e : Ending) (w' : World) : Prop :=
  ∃ v u, e = .returned (.tuple #[v, u]) ∧ w'.ownsRow w.heap.size 3 1 v a.length (ints a) ∧ w'.ownsRow w.heap.size 3 1 u b.length (ints b) ∧ Below w.heap.size w w'

set_option maxRecDepth 100000 in
set_option maxHeartbeats 4000000 in
theorem cvSplit_c (n : Nat) (s v : Value) (l : List St) (q : List Int) (a : Int) (w : World) (hg : goodTown n l = true) (hq : ∀ x ∈ q, 0 ≤ x ∧ x ≤ (n : Int) - 1) (hr : Rd w s l.length (l.flatMap St.cells)) (hv : RdI w v q) :
    Calls Try.prog 61 #[.agg #[.int .i64 n, s], v, .int .i64 a] w (OwnII (covIdx (coverL n (arcs l) q) a true n) (covIdx (coverL n (arcs l) q) a false n) w) := by
  have hbx : ∀ o, Below w.heap.size w (w.alloc o) := fun o => bel_al (Below.refl _ _) o
  have hc := fun o => cvTimes_c n s v l q (w.alloc o) hg hq (rd_below hr (hbx o)) (rdi_below hv (hbx o))
  have HC := Lib.hid hc
  obtain ⟨hn1, hn2, _, _⟩ := goodTown_true hg
  obtain ⟨i0, hi, hz0, hz1, hz2⟩ := info_parts Try.infoInt
  clear hc hr hv hg hq
  go_enter Try.func61, Try.ntmps61
  go_wp2_with fail
  refine (HC.out _).mono ?_
  rintro e w5 ⟨v5, rfl, ho5, hb5⟩
  rw [coverL_len] at ho5
  obtain ⟨d, hd⟩ : ∃ d, coverL n (arcs l) q = d := ⟨_, rfl⟩
  rw [hd] at ho5
  have HD := Lib.hid hd
  obtain ⟨h, cap5, rfl, hbh, hhl, hcap5, hcm5⟩ := own_shape ho5 (by omega)
  have HO5 := Lib.hid ho5
  have HB5 : Hid (Below w.heap.size w w5) := Lib.hid (bel_then (hbx _) hb5)
  clear ho5 hb5 hd HC
  go_wp2_with fail
  go_loopw [8, 9, 16] (fun v8 v9 v16 wr => ∃ (k : Nat), k ≤ n ∧ v16 = .int .i64 k ∧ Hid (wr.ownsRow w5.heap.size 3 1 v8 (covIdx d a true k).length (ints (covIdx d a true k))) ∧ Hid (wr.ownsRow w5.heap.size 3 1 v9 (covIdx d a false k).length (ints (covIdx d a false k))) ∧ Hid (∀ q q', v8.ownBlock = some q → v9.ownBlock = some q' → q ≠ q') ∧ Hid (Below w5.heap.size w5 wr)) (fun _ _ v16 _ => n - (intOf v16).toNat)
  case atStart => exact ⟨0, Nat.zero_le _, rfl, Lib.hid (show w5.ownsRow w5.heap.size 3 1 (.slice none 0 0) 0 [] from World.ownsRow_nil _ _ _ _), Lib.hid (show w5.ownsRow w5.heap.size 3 1 (.slice none 0 0) 0 [] from World.ownsRow_nil _ _ _ _), Lib.hid (fun q q' h => by cases h), Lib.hid (Below.refl _ _)⟩
  case round =>
    obtain ⟨k, hk, rfl, HOW, HOU, HSEP, HBL⟩ := hrel
    obtain ⟨wA, rfl⟩ : ∃ wA : World, wA = wr := ⟨_, rfl⟩
    by_cases hlt : k < n
    · have ce := (HBL.out.cell (p := ⟨h, k, none⟩) hhl).trans (own_cell HO5.out hlt)
      have hcl := covIdx_len d a true k
      have hcf := covIdx_len d a false k
      obtain ⟨x, hx⟩ : ∃ x, d.getD k 0 = x := ⟨_, rfl⟩
      obtain ⟨L, hL⟩ : ∃ L, covIdx d a true k = L := ⟨_, rfl⟩
      obtain ⟨M, hM⟩ : ∃ M, covIdx d a false k = M := ⟨_, rfl⟩
      rw [hx] at ce
      rw [hL] at HOW hcl
      rw [hM] at HOU hcf
      have HX := Lib.hid hx
      have HL := Lib.hid hL
      have HM := Lib.hid hM
      clear hx hL hM
      by_cases hyes : inB x 0 a = true
      · have HY : Hid (covIdx d a true (k + 1) = L ++ [(k : Int)]) := Lib.hid (by rw [covIdx_yes (by rw [HX.out]; exact hyes), HL.out])
        have HN : Hid (covIdx d a false (k + 1) = M) := Lib.hid (by rw [covIdx_no (by rw [HX.out, hyes]; simp), HM.out])
        go_wp2_with (first | (go_at_call 85; refine (l1In_c _ _ _ _).mono ?_; rw [hyes]; rintro e w' ⟨rfl, rfl⟩) | (at_builtin; refine wpList_app_rd _ rfl _ _ 27 rfl w5.heap.size 3 i0 (.int .i64 0) 1 8 Try.underlying27 hi hz0 hz1 hz2 rfl (by decide) _ _ _ rfl (HOW.out.alloc _) _ 1 [.int .i64 k] rfl (rd_new _ rfl (Nat.le_refl _) (by rw [maxLen_eq]; omega)) rfl (ints_one [(k : Int)]) (by rw [maxLen_eq]; omega) (by omega) (by have := HBL.out.size; simp; omega) ?_; intro v' w7 hown' hgrow hat))
        refine ⟨⟨k + 1, by omega, by go_num, Lib.hid ?_, Lib.hid ?_, Lib.hid ?_, Lib.hid (bel_grown (bel_al HBL.out _) hgrow (fun q e => (HOW.out.lt q e).1))⟩, by simp [intOf]; omega⟩
        · rw [HY.out, ints_append, List.length_append]; exact hown'
        · rw [HN.out]; exact kept3 (HOU.out.alloc _) hgrow HSEP.out
        · exact sep_after HSEP.out hat (fun q' e => by have := (HOU.out.lt q' e).2; simp; omega)
      · have hno : inB x 0 a = false := by simpa using hyes
        have HY : Hid (covIdx d a false (k + 1) = M ++ [(k : Int)]) := Lib.hid (by rw [covIdx_yes (by rw [HX.out]; exact hno), HM.out])
        have HN : Hid (covIdx d a true (k + 1) = L) := Lib.hid (by rw [covIdx_no (by rw [HX.out, hno]; simp), HL.out])
        clear hyes
        go_wp2_with (first | (go_at_call 85; refine (l1In_c _ _ _ _).mono ?_; rw [hno]; rintro e w' ⟨rfl, rfl⟩) | (at_builtin; refine wpList_app_rd _ rfl _ _ 27 rfl w5.heap.size 3 i0 (.int .i64 0) 1 8 Try.underlying27 hi hz0 hz1 hz2 rfl (by decide) _ _ _ rfl (HOU.out.alloc _) _ 1 [.int .i64 k] rfl (rd_new _ rfl (Nat.le_refl _) (by rw [maxLen_eq]; omega)) rfl (ints_one [(k : Int)]) (by rw [maxLen_eq]; omega) (by omega) (by have := HBL.out.size; simp; omega) ?_; intro v' w7 hown' hgrow hat))
        refine ⟨⟨k + 1, by omega, by go_num, Lib.hid ?_, Lib.hid ?_, Lib.hid ?_, Lib.hid (bel_grown (bel_al HBL.out _) hgrow (fun q e => (HOU.out.lt q e).1))⟩, by simp [intOf]; omega⟩
        · rw [HN.out]; exact kept3 (HOW.out.alloc _) hgrow (sep_symm HSEP.out)
        · rw [HY.out, ints_append, List.length_append]; exact hown'
        · exact sep_symm (sep_after (sep_symm HSEP.out) hat (fun q' e => by have := (HOW.out.lt q' e).2; simp; omega))
    · obtain rfl : k = n := by omega
      go_wp2
      go_ret2
      refine ⟨_, _, rfl, ?_, ?_, bel_then HB5.out HBL.out⟩
      · rw [HD.out]; exact own_base HOW.out HB5.out.size
      · rw [HD.out]; exact own_base HOU.out HB5.out.size

def coveredNodesW (m : Nat) (l : List St) (q : List Int) (a : Int) : List Int × Bool := (covIdx (coverL m (arcs l) q) a true m, true)
def coveredNodesV (n : Int) (l : List St) (q : List Int) (a : Int) : List Int × Bool := if askC n l q a = true then coveredNodesW n.toNat l q a else ([], false)
theorem coveredNodesV_len (n : Int) (l : List St) (q : List Int) (a : Int) : (coveredNodesV n l q a).1.length ≤ 1000000 := by
  unfold coveredNodesV
  split
  · rename_i h
    have h1 := goodTown_true (askC_true h).2.2.1
    have h2 := covIdx_len (coverL n.toNat (arcs l) q) a true n.toNat
    unfold coveredNodesW
    dsimp only
    omega
  · simp
set_option maxRecDepth 100000 in
set_option maxHeartbeats 1000000 in
theorem coveredNodesI_c (n : Int) (s : Value) (l : List St) (v : Value) (q : List Int) (a : Int) (w : World) (hr : Rd w s l.length (l.flatMap St.cells)) (hq : RdI w v q) :
    Calls Try.prog 8 #[.agg #[.int .i64 n, s], v, .int .i64 a] w (OwnIB (coveredNodesV n l q a) w) := by
  have HR := Lib.hid hr
  have HQ := Lib.hid hq
  clear hr hq
  have hbx : ∀ o, Below w.heap.size w (w.alloc o) := fun o => bel_al (Below.refl _ _) o
  by_cases hok : askC n l q a = true
  · have hk := askC_true hok
    obtain ⟨hok1, hlim, hg, hqm, hq6⟩ := hk
    obtain ⟨hlim0, hlim1⟩ := inB_true hlim
    obtain ⟨m, rfl⟩ := nat_of (goodTown_true hg).1
    have HF : Hid (coveredNodesV m l q a = coveredNodesW m l q a) := Lib.hid (by unfold coveredNodesV; rw [if_pos hok, Int.toNat_natCast])
    obtain ⟨hm1, hm2, _, _⟩ := goodTown_true hg
    have HG := Lib.hid hg
    have HM := Lib.hid hqm
    have HOK := Lib.hid hok
    have HOK1 := Lib.hid hok1
    have HLIM := Lib.hid hlim
    clear hok1 hlim
    clear hg hqm hok
    go_enter Try.func8, Try.ntmps8
    go_wp2_with fail
    generalize hw1 : World.alloc w _ = w1
    have k0 : w1.cell? ⟨w.heap.size, 0, none⟩ = some (.int .i64 m) := by subst hw1; simp [go_sem]
    have k1 : w1.cell? ⟨w.heap.size, 1, none⟩ = some s := by subst hw1; simp [go_sem]
    have hb1 : Below w.heap.size w w1 := by subst hw1; exact hbx _
    have hz : w.heap.size < w1.heap.size := by subst hw1; simp
    clear hw1 hbx
    refine (areStations_c m s _ l q _ _ k0 k1 (rd_below HR.out hb1) (rdi_below HQ.out hb1)).mono ?_; rw [HOK1.out]; rintro e w2 ⟨rfl, hb2⟩
    have hb12 := bel_then hb1 hb2
    have hz2 : w.heap.size < w2.heap.size := Nat.lt_of_lt_of_le hz hb2.size
    have z0 := (hb2.cell (p := ⟨w.heap.size, 0, none⟩) hz).trans k0
    have z1 := (hb2.cell (p := ⟨w.heap.size, 1, none⟩) hz).trans k1
    have HR2 := Lib.hid (rd_below HR.out hb12)
    have HQ2 := Lib.hid (rdi_below HQ.out hb12)
    have HB := Lib.hid hb12
    clear k0 k1 hb1 hb2 hz hb12
    go_wp2_with fail
    refine (isLimit_c a _).mono ?_; rw [HLIM.out]; rintro e w2 ⟨rfl, rfl⟩
    go_wp2_with fail
    refine (coveredNodes_c m s _ l q a true _ _ HG.out HM.out z0 z1 HR2.out HQ2.out).mono ?_; rintro e w3 ⟨x, rfl, ho, hb3⟩
    go_wp2
    go_ret2
    rw [HF.out]
    exact ⟨_, rfl, own_base ho HB.out.size, bel_then HB.out hb3⟩
  · have hok : askC n l q a = false := by simpa using hok
    have HF : Hid (coveredNodesV n l q a = ([], false)) := Lib.hid (by unfold coveredNodesV; rw [hok]; rfl)
    by_cases hg : goodSta n l q = true
    · have hl : inB a 0 36000 = false := by unfold askC at hok; rw [hg] at hok; simpa using hok
      go_enter Try.func8, Try.ntmps8
      go_wp2_with (first | (go_at_call 57; refine (areStations_c n s _ l q _ _ (by simp [go_sem]) (by simp [go_sem]) (rd_below HR.out (hbx _)) (rdi_below HQ.out (hbx _))).mono ?_; rw [hg]; rintro e w' ⟨rfl, hb1⟩) | (go_at_call 58; refine (isLimit_c a _).mono ?_; rw [hl]; rintro e w' ⟨rfl, rfl⟩))
      go_ret2
      rw [HF.out]
      exact ⟨_, rfl, World.ownsRow_nil _ _ _ _, bel_then (hbx _) hb1⟩
    · have hg : goodSta n l q = false := by simpa using hg
      go_enter Try.func8, Try.ntmps8
      go_wp2_with (go_at_call 57; refine (areStations_c n s _ l q _ _ (by simp [go_sem]) (by simp [go_sem]) (rd_below HR.out (hbx _)) (rdi_below HQ.out (hbx _))).mono ?_; rw [hg]; rintro e w' ⟨rfl, hb1⟩)
      go_ret2
      rw [HF.out]
      exact ⟨_, rfl, World.ownsRow_nil _ _ _ _, bel_then (hbx _) hb1⟩
set_option maxRecDepth 100000 in
set_option maxHeartbeats 1000000 in
theorem coveredNodesS_c (n : Int) (s : Value) (l : List St) (v : Value) (q : List Int) (a : Int) (w : World) (hr : Rd w s l.length (l.flatMap St.cells)) (hq : RdI w v q) :
    Calls Try.prog 9 #[.agg #[.int .i64 n, s], v, .int .i64 a] w (OwnIB (coveredNodesV n l q a) w) := by
  have HR := Lib.hid hr
  have HQ := Lib.hid hq
  clear hr hq
  have hbx : ∀ o, Below w.heap.size w (w.alloc o) := fun o => bel_al (Below.refl _ _) o
  by_cases hok : askC n l q a = true
  · have hk := askC_true hok
    obtain ⟨hok1, hlim, hg, hqm, hq6⟩ := hk
    obtain ⟨hlim0, hlim1⟩ := inB_true hlim
    obtain ⟨m, rfl⟩ := nat_of (goodTown_true hg).1
    have HF : Hid (coveredNodesV m l q a = coveredNodesW m l q a) := Lib.hid (by unfold coveredNodesV; rw [if_pos hok, Int.toNat_natCast])
    obtain ⟨hm1, hm2, _, _⟩ := goodTown_true hg
    have HG := Lib.hid hg
    have HM := Lib.hid hqm
    have HOK := Lib.hid hok
    have HOK1 := Lib.hid hok1
    have HLIM := Lib.hid hlim
    clear hok1 hlim
    clear hg hqm hok
    go_enter Try.func9, Try.ntmps9
    go_wp2_with fail
    generalize hw1 : World.alloc w _ = w1
    have k0 : w1.cell? ⟨w.heap.size, 0, none⟩ = some (.int .i64 m) := by subst hw1; simp [go_sem]
    have k1 : w1.cell? ⟨w.heap.size, 1, none⟩ = some s := by subst hw1; simp [go_sem]
    have hb1 : Below w.heap.size w w1 := by subst hw1; exact hbx _
    have hz : w.heap.size < w1.heap.size := by subst hw1; simp
    clear hw1 hbx
    refine (cvAsked_c m s l _ q a _ (rd_below HR.out hb1) (rdi_below HQ.out hb1)).mono ?_; rw [HOK.out]; rintro e w2 ⟨rfl, hb2⟩
    have hb12 := bel_then hb1 hb2
    have hz2 : w.heap.size < w2.heap.size := Nat.lt_of_lt_of_le hz hb2.size
    have z0 := (hb2.cell (p := ⟨w.heap.size, 0, none⟩) hz).trans k0
    have z1 := (hb2.cell (p := ⟨w.heap.size, 1, none⟩) hz).trans k1
    have HR2 := Lib.hid (rd_below HR.out hb12)
    have HQ2 := Lib.hid (rdi_below HQ.out hb12)
    have HB := Lib.hid hb12
    clear k0 k1 hb1 hb2 hz hb12
    go_wp2_with fail
    refine (cvSplit_c m s _ l q a _ HG.out HM.out HR2.out HQ2.out).mono ?_; rintro e w3 ⟨x, y, rfl, ho, ho', hb3⟩
    go_wp2
    go_ret2
    rw [HF.out]
    exact ⟨_, rfl, own_base ho HB.out.size, bel_then HB.out hb3⟩
  · have hok : askC n l q a = false := by simpa using hok
    have HF : Hid (coveredNodesV n l q a = ([], false)) := Lib.hid (by unfold coveredNodesV; rw [hok]; rfl)
    go_enter Try.func9, Try.ntmps9
    go_wp2_with (go_at_call 60; refine (cvAsked_c n s l _ q a _ (rd_below HR.out (hbx _)) (rdi_below HQ.out (hbx _))).mono ?_; rw [hok]; rintro e w' ⟨rfl, hb1⟩)
    go_ret2
    rw [HF.out]
    exact ⟨_, rfl, World.ownsRow_nil _ _ _ _, bel_then (hbx _) hb1⟩
def uncoveredNodesW (m : Nat) (l : List St) (q : List Int) (a : Int) : List Int × Bool := (covIdx (coverL m (arcs l) q) a false m, true)
def uncoveredNodesV (n : Int) (l : List St) (q : List Int) (a : Int) : List Int × Bool := if askC n l q a = true then uncoveredNodesW n.toNat l q a else ([], false)
theorem uncoveredNodesV_len (n : Int) (l : List St) (q : List Int) (a : Int) : (uncoveredNodesV n l q a).1.length ≤ 1000000 := by
  unfold uncoveredNodesV
  split
  · rename_i h
    have h1 := goodTown_true (askC_true h).2.2.1
    have h2 := covIdx_len (coverL n.toNat (arcs l) q) a false n.toNat
    unfold uncoveredNodesW
    dsimp only
    omega
  · simp
set_option maxRecDepth 100000 in
set_option maxHeartbeats 1000000 in
theorem uncoveredNodesI_c (n : Int) (s : Value) (l : List St) (v : Value) (q : List Int) (a : Int) (w : World) (hr : Rd w s l.length (l.flatMap St.cells)) (hq : RdI w v q) :
    Calls Try.prog 10 #[.agg #[.int .i64 n, s], v, .int .i64 a] w (OwnIB (uncoveredNodesV n l q a) w) := by
  have HR := Lib.hid hr
  have HQ := Lib.hid hq
  clear hr hq
  have hbx : ∀ o, Below w.heap.size w (w.alloc o) := fun o => bel_al (Below.refl _ _) o
  by_cases hok : askC n l q a = true
  · have hk := askC_true hok
    obtain ⟨hok1, hlim, hg, hqm, hq6⟩ := hk
    obtain ⟨hlim0, hlim1⟩ := inB_true hlim
    obtain ⟨m, rfl⟩ := nat_of (goodTown_true hg).1
    have HF : Hid (uncoveredNodesV m l q a = uncoveredNodesW m l q a) := Lib.hid (by unfold uncoveredNodesV; rw [if_pos hok, Int.toNat_natCast])
    obtain ⟨hm1, hm2, _, _⟩ := goodTown_true hg
    have HG := Lib.hid hg
    have HM := Lib.hid hqm
    have HOK := Lib.hid hok
    have HOK1 := Lib.hid hok1
    have HLIM := Lib.hid hlim
    clear hok1 hlim
    clear hg hqm hok
    go_enter Try.func10, Try.ntmps10
    go_wp2_with fail
    generalize hw1 : World.alloc w _ = w1
    have k0 : w1.cell? ⟨w.heap.size, 0, none⟩ = some (.int .i64 m) := by subst hw1; simp [go_sem]
    have k1 : w1.cell? ⟨w.heap.size, 1, none⟩ = some s := by subst hw1; simp [go_sem]
    have hb1 : Below w.heap.size w w1 := by subst hw1; exact hbx _
    have hz : w.heap.size < w1.heap.size := by subst hw1; simp
    clear hw1 hbx
    refine (areStations_c m s _ l q _ _ k0 k1 (rd_below HR.out hb1) (rdi_below HQ.out hb1)).mono ?_; rw [HOK1.out]; rintro e w2 ⟨rfl, hb2⟩
    have hb12 := bel_then hb1 hb2
    have hz2 : w.heap.size < w2.heap.size := Nat.lt_of_lt_of_le hz hb2.size
    have z0 := (hb2.cell (p := ⟨w.heap.size, 0, none⟩) hz).trans k0
    have z1 := (hb2.cell (p := ⟨w.heap.size, 1, none⟩) hz).trans k1
    have HR2 := Lib.hid (rd_below HR.out hb12)
    have HQ2 := Lib.hid (rdi_below HQ.out hb12)
    have HB := Lib.hid hb12
    clear k0 k1 hb1 hb2 hz hb12
    go_wp2_with fail
    refine (isLimit_c a _).mono ?_; rw [HLIM.out]; rintro e w2 ⟨rfl, rfl⟩
    go_wp2_with fail
    refine (coveredNodes_c m s _ l q a false _ _ HG.out HM.out z0 z1 HR2.out HQ2.out).mono ?_; rintro e w3 ⟨x, rfl, ho, hb3⟩
    go_wp2
    go_ret2
    rw [HF.out]
    exact ⟨_, rfl, own_base ho HB.out.size, bel_then HB.out hb3⟩
  · have hok : askC n l q a = false := by simpa using hok
    have HF : Hid (uncoveredNodesV n l q a = ([], false)) := Lib.hid (by unfold uncoveredNodesV; rw [hok]; rfl)
    by_cases hg : goodSta n l q = true
    · have hl : inB a 0 36000 = false := by unfold askC at hok; rw [hg] at hok; simpa using hok
      go_enter Try.func10, Try.ntmps10
      go_wp2_with (first | (go_at_call 57; refine (areStations_c n s _ l q _ _ (by simp [go_sem]) (by simp [go_sem]) (rd_below HR.out (hbx _)) (rdi_below HQ.out (hbx _))).mono ?_; rw [hg]; rintro e w' ⟨rfl, hb1⟩) | (go_at_call 58; refine (isLimit_c a _).mono ?_; rw [hl]; rintro e w' ⟨rfl, rfl⟩))
      go_ret2
      rw [HF.out]
      exact ⟨_, rfl, World.ownsRow_nil _ _ _ _, bel_then (hbx _) hb1⟩
    · have hg : goodSta n l q = false := by simpa using hg
      go_enter Try.func10, Try.ntmps10
      go_wp2_with (go_at_call 57; refine (areStations_c n s _ l q _ _ (by simp [go_sem]) (by simp [go_sem]) (rd_below HR.out (hbx _)) (rdi_below HQ.out (hbx _))).mono ?_; rw [hg]; rintro e w' ⟨rfl, hb1⟩)
      go_ret2
      rw [HF.out]
      exact ⟨_, rfl, World.ownsRow_nil _ _ _ _, bel_then (hbx _) hb1⟩
set_option maxRecDepth 100000 in
set_option maxHeartbeats 1000000 in
theorem uncoveredNodesS_c (n : Int) (s : Value) (l : List St) (v : Value) (q : List Int) (a : Int) (w : World) (hr : Rd w s l.length (l.flatMap St.cells)) (hq : RdI w v q) :
    Calls Try.prog 11 #[.agg #[.int .i64 n, s], v, .int .i64 a] w (OwnIB (uncoveredNodesV n l q a) w) := by
  have HR := Lib.hid hr
  have HQ := Lib.hid hq
  clear hr hq
  have hbx : ∀ o, Below w.heap.size w (w.alloc o) := fun o => bel_al (Below.refl _ _) o
  by_cases hok : askC n l q a = true
  · have hk := askC_true hok
    obtain ⟨hok1, hlim, hg, hqm, hq6⟩ := hk
    obtain ⟨hlim0, hlim1⟩ := inB_true hlim
    obtain ⟨m, rfl⟩ := nat_of (goodTown_true hg).1
    have HF : Hid (uncoveredNodesV m l q a = uncoveredNodesW m l q a) := Lib.hid (by unfold uncoveredNodesV; rw [if_pos hok, Int.toNat_natCast])
    obtain ⟨hm1, hm2, _, _⟩ := goodTown_true hg
    have HG := Lib.hid hg
    have HM := Lib.hid hqm
    have HOK := Lib.hid hok
    have HOK1 := Lib.hid hok1
    have HLIM := Lib.hid hlim
    clear hok1 hlim
    clear hg hqm hok
    go_enter Try.func11, Try.ntmps11
    go_wp2_with fail
    generalize hw1 : World.alloc w _ = w1
    have k0 : w1.cell? ⟨w.heap.size, 0, none⟩ = some (.int .i64 m) := by subst hw1; simp [go_sem]
    have k1 : w1.cell? ⟨w.heap.size, 1, none⟩ = some s := by subst hw1; simp [go_sem]
    have hb1 : Below w.heap.size w w1 := by subst hw1; exact hbx _
    have hz : w.heap.size < w1.heap.size := by subst hw1; simp
    clear hw1 hbx
    refine (cvAsked_c m s l _ q a _ (rd_below HR.out hb1) (rdi_below HQ.out hb1)).mono ?_; rw [HOK.out]; rintro e w2 ⟨rfl, hb2⟩
    have hb12 := bel_then hb1 hb2
    have hz2 : w.heap.size < w2.heap.size := Nat.lt_of_lt_of_le hz hb2.size
    have z0 := (hb2.cell (p := ⟨w.heap.size, 0, none⟩) hz).trans k0
    have z1 := (hb2.cell (p := ⟨w.heap.size, 1, none⟩) hz).trans k1
    have HR2 := Lib.hid (rd_below HR.out hb12)
    have HQ2 := Lib.hid (rdi_below HQ.out hb12)
    have HB := Lib.hid hb12
    clear k0 k1 hb1 hb2 hz hb12
    go_wp2_with fail
    refine (cvSplit_c m s _ l q a _ HG.out HM.out HR2.out HQ2.out).mono ?_; rintro e w3 ⟨x, y, rfl, ho, ho', hb3⟩
    go_wp2
    go_ret2
    rw [HF.out]
    exact ⟨_, rfl, own_base ho' HB.out.size, bel_then HB.out hb3⟩
  · have hok : askC n l q a = false := by simpa using hok
    have HF : Hid (uncoveredNodesV n l q a = ([], false)) := Lib.hid (by unfold uncoveredNodesV; rw [hok]; rfl)
    go_enter Try.func11, Try.ntmps11
    go_wp2_with (go_at_call 60; refine (cvAsked_c n s l _ q a _ (rd_below HR.out (hbx _)) (rdi_below HQ.out (hbx _))).mono ?_; rw [hok]; rintro e w' ⟨rfl, hb1⟩)
    go_ret2
    rw [HF.out]
    exact ⟨_, rfl, World.ownsRow_nil _ _ _ _, bel_then (hbx _) hb1⟩
end Go.Proofs.Ytahehdgkbhjpoaa

namespace Go.Proofs.Ytahehdgkbhjpoaa
set_option linter.unusedVariables false
set_option linter.unusedSimpArgs false
open Go.RowKit

def BdI (m : Int) (d : List Int) : Prop := ∀ x ∈ d, -1 ≤ x ∧ x ≤ m
theorem bdI_dist {n : Int} {l : List St} (h : goodTown n l = true) (N src : Nat) (hN : N ≤ 14) : BdI 5000000 (distT N (arcs l) src) := by
  obtain ⟨_, _, h40, _⟩ := goodTown_true h
  intro x hx
  obtain ⟨i, hi, rfl⟩ := List.getElem_of_mem hx
  have hb := bd_iter (arcs_bd h) N src N i
  have e : (distT N (arcs l) src)[i] = (iterT (arcs l) (startT N src) N).getD i 0 := by unfold distT at hi ⊢; simp [List.getD, hi]
  rw [← e] at hb
  have hlen : (arcs l).length ≤ 80 := by rw [arcs_len]; omega
  have hm : (arcs l).length * N ≤ 80 * 14 := Nat.mul_le_mul hlen hN
  have e2 : (3600 * ((arcs l).length : Int) * (N : Int)) = 3600 * (((arcs l).length * N : Nat) : Int) := by rw [Int.natCast_mul, Int.mul_assoc]
  rw [e2] at hb
  generalize (arcs l).length * N = q at hb hm
  omega
theorem bdI_merge {m : Int} {d e : List Int} (hd : BdI m d) (he : BdI m e) : BdI m (mergeT d e) := by
  intro x hx
  unfold mergeT at hx
  obtain ⟨i, hi, rfl⟩ := List.getElem_of_mem hx
  rw [List.length_zipWith] at hi
  rw [List.getElem_zipWith]
  have h1 := hd _ (List.getElem_mem (l := d) (n := i) (by omega))
  have h2 := he _ (List.getElem_mem (l := e) (n := i) (by omega))
  unfold pickT
  split <;> omega
theorem bdI_cover {n : Int} {l : List St} (h : goodTown n l = true) (N : Nat) (hN : N ≤ 14) (q : List Int) : BdI 5000000 (coverL N (arcs l) q) := by
  unfold coverL
  have : ∀ (q d : List Int), BdI 5000000 d → BdI 5000000 (q.foldl (fun d s => mergeT d (distT N (arcs l) s.toNat)) d) := by
    intro q
    induction q with
    | nil => intro d hd; exact hd
    | cons s q ih => intro d hd; exact ih _ (bdI_merge hd (bdI_dist h N _ hN))
  exact this q _ (fun x hx => by rw [(List.mem_replicate.1 hx).2]; omega)
theorem getD_bd {m : Int} {d : List Int} (h : BdI m d) {j : Nat} (hj : j < d.length) : -1 ≤ d.getD j 0 ∧ d.getD j 0 ≤ m := by
  have := h _ (List.getElem_mem (l := d) (n := j) hj)
  simpa [List.getD, List.getElem?_eq_getElem hj] using this
theorem getD_some {d : List Int} {j : Nat} (hj : j < d.length) : d[j]? = some (d.getD j 0) := by simp [List.getD, List.getElem?_eq_getElem hj]
theorem mem_take_getD {d : List Int} {j : Nat} {x : Int} (h : x ∈ d.take j) : ∃ i, i < j ∧ i < d.length ∧ x = d.getD i 0 := by
  obtain ⟨i, hi, rfl⟩ := List.getElem_of_mem h
  rw [List.length_take] at hi
  refine ⟨i, by omega, by omega, ?_⟩
  rw [List.getElem_take]
  simp [List.getD, List.getElem?_eq_getElem (show i < d.length by omega)]
theorem foldl_max_ge (l : List Int) : ∀ y, y ≤ l.foldl max y ∧ (∀ x ∈ l, x ≤ l.foldl max y) ∧ (l.foldl max y = y ∨ l.foldl max y ∈ l) := by
  induction l with
  | nil => intro y; simp
  | cons z l ih =>
    intro y
    rw [List.foldl_cons]
    obtain ⟨h1, h2, h3⟩ := ih (max y z)
    refine ⟨by omega, fun x hx => ?_, ?_⟩
    · rcases List.mem_cons.1 hx with rfl | hx
      · omega
      · exact h2 x hx
    · rcases h3 with h3 | h3
      · rw [h3]
        rcases Int.le_total y z with h | h
        · right; rw [Int.max_eq_right h]; simp
        · left; exact Int.max_eq_left h
      · right; simp [h3]
theorem maxL_spec {d : List Int} (h : 0 < d.length) : maxL d ∈ d ∧ ∀ x ∈ d, x ≤ maxL d := by
  cases d with
  | nil => simp at h
  | cons y l =>
    obtain ⟨h1, h2, h3⟩ := foldl_max_ge l y
    refine ⟨?_, fun x hx => ?_⟩
    · show l.foldl max y ∈ y :: l
      rcases h3 with h3 | h3
      · rw [h3]; simp
      · simp [h3]
    · rcases List.mem_cons.1 hx with rfl | hx
      · exact h1
      · exact h2 x hx
theorem foldl_min_le (l : List Int) : ∀ y, l.foldl min y ≤ y ∧ (∀ x ∈ l, l.foldl min y ≤ x) ∧ (l.foldl min y = y ∨ l.foldl min y ∈ l) := by
  induction l with
  | nil => intro y; simp
  | cons z l ih =>
    intro y
    rw [List.foldl_cons]
    obtain ⟨h1, h2, h3⟩ := ih (min y z)
    refine ⟨by omega, fun x hx => ?_, ?_⟩
    · rcases List.mem_cons.1 hx with rfl | hx
      · omega
      · exact h2 x hx
    · rcases h3 with h3 | h3
      · rw [h3]
        rcases Int.le_total y z with h | h
        · left; exact Int.min_eq_left h
        · right; rw [Int.min_eq_right h]; simp
      · right; simp [h3]
theorem minL_spec {d : List Int} (h : 0 < d.length) : minL d ∈ d ∧ ∀ x ∈ d, minL d ≤ x := by
  cases d with
  | nil => simp at h
  | cons y l =>
    obtain ⟨h1, h2, h3⟩ := foldl_min_le l y
    refine ⟨?_, fun x hx => ?_⟩
    · show l.foldl min y ∈ y :: l
      rcases h3 with h3 | h3
      · rw [h3]; simp
      · simp [h3]
    · rcases List.mem_cons.1 hx with rfl | hx
      · exact h1
      · exact h2 x hx
theorem maxL_eq {d : List Int} {x : Int} (h : x ∈ d) (hx : ∀ y ∈ d, y ≤ x) : maxL d = x := by
  have hl : 0 < d.length := List.length_pos_of_mem h
  have h1 := maxL_spec hl
  have := hx _ h1.1
  have := h1.2 _ h
  omega

/-! ### WeakestNode -/
def weakW (d : List Int) : Int × Int × Bool := if 0 ≤ idxI d (-1) then (idxI d (-1), -1, true) else (idxI d (maxL d), maxL d, true)
def weakestNodeW (m : Nat) (l : List St) (q : List Int) : Int × Int × Bool := weakW (coverL m (arcs l) q)
def weakestNodeV (n : Int) (l : List St) (q : List Int) : Int × Int × Bool := if goodSta n l q = true then weakestNodeW n.toNat l q else (0, 0, false)
/-- What holds of the node that stands first after k of them. -/
def WeakInv (d : List Int) (k b : Nat) : Prop := (k = 0 ∧ b = 0) ∨ (b < k ∧ d.getD b 0 < 0 ∧ ∀ j, j < b → 0 ≤ d.getD j 0) ∨ (b < k ∧ ∀ j, j < k → 0 ≤ d.getD j 0 ∧ d.getD j 0 ≤ d.getD b 0 ∧ (j < b → d.getD j 0 < d.getD b 0))
theorem weak_first {d : List Int} : WeakInv d 1 0 := by
  unfold WeakInv
  by_cases h : d.getD 0 0 < 0
  · exact Or.inr (Or.inl ⟨by omega, h, fun j hj => by omega⟩)
  · exact Or.inr (Or.inr ⟨by omega, fun j hj => by obtain rfl : j = 0 := by omega
                                                   exact ⟨by omega, by omega, fun h => by omega⟩⟩)
theorem weak_yes {d : List Int} {k b : Nat} (h : WeakInv d k b) (hb : 0 ≤ d.getD b 0) (hk : d.getD k 0 < 0 ∨ d.getD b 0 < d.getD k 0) : WeakInv d (k + 1) k := by
  rcases h with ⟨rfl, rfl⟩ | ⟨_, h, _⟩ | ⟨hlt, h⟩
  · exact weak_first
  · omega
  · rcases hk with hk | hk
    · exact Or.inr (Or.inl ⟨by omega, hk, fun j hj => (h j hj).1⟩)
    · refine Or.inr (Or.inr ⟨by omega, fun j hj => ?_⟩)
      rcases Nat.lt_or_ge j k with hj' | hj'
      · have := h j hj'; exact ⟨by omega, by omega, fun _ => by omega⟩
      · obtain rfl : j = k := by omega
        exact ⟨by omega, by omega, fun h => by omega⟩
theorem weak_no {d : List Int} {k b : Nat} (h : WeakInv d k b) (hn : ¬ (0 ≤ d.getD b 0 ∧ (d.getD k 0 < 0 ∨ d.getD b 0 < d.getD k 0))) : WeakInv d (k + 1) b := by
  rcases h with ⟨rfl, rfl⟩ | ⟨h1, h2, h3⟩ | ⟨hlt, h⟩
  · exact weak_first
  · exact Or.inr (Or.inl ⟨by omega, h2, h3⟩)
  · have hb := h b hlt
    refine Or.inr (Or.inr ⟨by omega, fun j hj => ?_⟩)
    rcases Nat.lt_or_ge j k with hj' | hj'
    · exact h j hj'
    · obtain rfl : j = k := by omega
      exact ⟨by omega, by omega, fun h => by omega⟩
theorem weak_end {d : List Int} {m : Int} {b : Nat} (hbd : BdI m d) (hl : 0 < d.length) (h : WeakInv d d.length b) : weakW d = ((b : Int), d.getD b 0, true) := by
  unfold weakW
  rcases h with ⟨h0, _⟩ | ⟨h1, h2, h3⟩ | ⟨hlt, h⟩
  · omega
  · have hm := (getD_bd hbd h1).1
    have e : d.getD b 0 = -1 := by omega
    have hi : idxI d (-1) = (b : Int) := idxI_at (by rw [getD_some h1, e]) (fun hmem => by
      obtain ⟨i, hi, _, hx⟩ := mem_take_getD hmem
      have := h3 i hi
      omega)
    rw [hi, if_pos (by omega), e]
  · have hn : (-1 : Int) ∉ d := fun hmem => by
      obtain ⟨i, hi, hx⟩ := List.getElem_of_mem hmem
      have := h i hi
      have e : d.getD i 0 = d[i] := by simp [List.getD, hi]
      rw [e, hx] at this
      omega
    rw [idxI_none hn, if_neg (by omega)]
    have hmx : maxL d = d.getD b 0 := maxL_eq (List.mem_of_getElem? (getD_some hlt)) (fun y hy => by
      obtain ⟨i, hi, rfl⟩ := List.getElem_of_mem hy
      have := (h i hi).2.1
      have e : d.getD i 0 = d[i] := by simp [List.getD, hi]
      rw [← e]; exact this)
    rw [hmx, idxI_at (getD_some hlt) (fun hmem => by
      obtain ⟨i, hi, hi2, hx⟩ := mem_take_getD hmem
      have := (h i hi2).2.2 hi
      omega)]

/-! ### LeastLimit -/
def leastW (d : List Int) : Int × Bool := if minL d < 0 ∨ 36000 < maxL d then (0, false) else (maxL d, true)
def leastLimitW (m : Nat) (l : List St) (q : List Int) : Int × Bool := leastW (coverL m (arcs l) q)
def leastLimitV (n : Int) (l : List St) (q : List Int) : Int × Bool := if goodSta n l q = true then leastLimitW n.toNat l q else (0, false)
theorem least_neg {d : List Int} {k : Nat} (hk : k < d.length) (h : d.getD k 0 < 0) : leastW d = (0, false) := by
  unfold leastW
  rw [if_pos (Or.inl _)]
  have := (minL_spec (by omega : 0 < d.length)).2 _ (List.mem_of_getElem? (getD_some hk))
  omega
theorem least_fit {d : List Int} (hl : 0 < d.length) (h : ∀ x ∈ d, 0 ≤ x) : leastW d = (if inB (d.foldl max 0) 0 36000 = true then (d.foldl max 0, true) else (0, false)) := by
  have hm := minL_spec hl
  have hx := maxL_spec hl
  obtain ⟨h1, h2, h3⟩ := foldl_max_ge d 0
  have e : d.foldl max 0 = maxL d := by
    have a1 := h2 _ hx.1
    rcases h3 with h3 | h3
    · have := h _ hx.1; omega
    · have := hx.2 _ h3; omega
  have h0 := h _ hm.1
  have h4 := h _ hx.1
  unfold leastW
  rw [e]
  unfold inB
  by_cases hc : maxL d ≤ 36000
  · rw [if_neg (by omega), if_pos (by simp [hc, h4])]
  · rw [if_pos (by omega), if_neg (by simp [hc])]
end Go.Proofs.Ytahehdgkbhjpoaa

namespace Go.Proofs.Ytahehdgkbhjpoaa
set_option linter.unusedVariables false
set_option linter.unusedSimpArgs false
open Go.RowKit

def strB (L : List UInt8) : ByteArray := ⟨L.toArray⟩
def letC (d q : List Int) (a : Int) (i : Nat) : UInt8 := if (i : Int) ∈ q then 83 else if inB (d.getD i 0) 0 a = true then 99 else 45
def textC (d q : List Int) (a : Int) (k : Nat) : List UInt8 := (List.range k).map (letC d q a)
theorem textC_succ (d q : List Int) (a : Int) (k : Nat) : textC d q a (k + 1) = textC d q a k ++ [letC d q a k] := by simp [textC, List.range_succ]
theorem strB_app (L M : List UInt8) : strB L ++ strB M = strB (L ++ M) := by
  unfold strB
  apply ByteArray.ext
  simp
theorem strB_size (L : List UInt8) : (strB L).size = L.length := by simp [strB, ByteArray.size]
theorem textC_len (d q : List Int) (a : Int) (k : Nat) : (textC d q a k).length = k := by simp [textC]
theorem text_step {d q : List Int} {a : Int} {k : Nat} {S : ByteArray} {c : UInt8} (h : strB (textC d q a k) = S) (hc : letC d q a k = c) : strB (textC d q a (k + 1)) = S ++ ⟨#[c]⟩ := by
  rw [textC_succ, hc, ← h, ← strB_app]; rfl
theorem size_one {S : ByteArray} {c : UInt8} (h : S.size < 14) : (S ++ ⟨#[c]⟩).size ≤ 14 := by
  rw [ByteArray.size_append]
  have : (⟨#[c]⟩ : ByteArray).size = 1 := rfl
  omega
def coverTextW (m : Nat) (l : List St) (q : List Int) (a : Int) : ByteArray × Bool := (strB (textC (coverL m (arcs l) q) q a m), true)
def coverTextV (n : Int) (l : List St) (q : List Int) (a : Int) : ByteArray × Bool := if askC n l q a = true then coverTextW n.toNat l q a else (⟨#[]⟩, false)
set_option maxRecDepth 100000 in
set_option maxHeartbeats 1000000 in
theorem coverTextI_c (n : Int) (s : Value) (l : List St) (v : Value) (q : List Int) (a : Int) (w : World) (hr : Rd w s l.length (l.flatMap St.cells)) (hq : RdI w v q) :
    Calls Try.prog 12 #[.agg #[.int .i64 n, s], v, .int .i64 a] w (fun e w' => e = .returned (.tuple #[.string (coverTextV n l q a).1, .bool (coverTextV n l q a).2]) ∧ Below w.heap.size w w') := by
  have HR := Lib.hid hr
  have HQ := Lib.hid hq
  clear hr hq
  have hbx : ∀ o, Below w.heap.size w (w.alloc o) := fun o => bel_al (Below.refl _ _) o
  by_cases hok : askC n l q a = true
  · have hk := askC_true hok
    obtain ⟨hok1, hlim, hg, hqm, hq6⟩ := hk
    obtain ⟨hlim0, hlim1⟩ := inB_true hlim
    obtain ⟨m, rfl⟩ := nat_of (goodTown_true hg).1
    have HF : Hid (coverTextV m l q a = coverTextW m l q a) := Lib.hid (by unfold coverTextV; rw [if_pos hok, Int.toNat_natCast])
    obtain ⟨hm1, hm2, _, _⟩ := goodTown_true hg
    have HG := Lib.hid hg
    have HM := Lib.hid hqm
    have HOK := Lib.hid hok
    have HOK1 := Lib.hid hok1
    have HLIM := Lib.hid hlim
    clear hok1 hlim
    clear hg hqm hok
    go_enter Try.func12, Try.ntmps12
    go_wp2_with fail
    generalize hw1 : World.alloc w _ = w1
    have k0 : w1.cell? ⟨w.heap.size, 0, none⟩ = some (.int .i64 m) := by subst hw1; simp [go_sem]
    have k1 : w1.cell? ⟨w.heap.size, 1, none⟩ = some s := by subst hw1; simp [go_sem]
    have hb1 : Below w.heap.size w w1 := by subst hw1; exact hbx _
    have hz : w.heap.size < w1.heap.size := by subst hw1; simp
    clear hw1 hbx
    refine (areStations_c m s _ l q _ _ k0 k1 (rd_below HR.out hb1) (rdi_below HQ.out hb1)).mono ?_; rw [HOK1.out]; rintro e w2 ⟨rfl, hb2⟩
    have hb12 := bel_then hb1 hb2
    have hz2 : w.heap.size < w2.heap.size := Nat.lt_of_lt_of_le hz hb2.size
    have z0 := (hb2.cell (p := ⟨w.heap.size, 0, none⟩) hz).trans k0
    have z1 := (hb2.cell (p := ⟨w.heap.size, 1, none⟩) hz).trans k1
    have HR2 := Lib.hid (rd_below HR.out hb12)
    have HQ2 := Lib.hid (rdi_below HQ.out hb12)
    have HB := Lib.hid hb12
    clear k0 k1 hb1 hb2 hz hb12
    go_wp2_with fail
    refine (isLimit_c a _).mono ?_; rw [HLIM.out]; rintro e w2 ⟨rfl, rfl⟩
    go_wp2_with fail
    refine (coverTimes_c m s _ l q _ _ HG.out HM.out z0 z1 HR2.out HQ2.out).mono ?_; rintro e w3 ⟨x, rfl, ho, hb3⟩
    rw [coverL_len] at ho
    have HWV : Hid (coverTextW m l q a = (strB (textC (coverL m (arcs l) q) q a m), true)) := Lib.hid rfl
    obtain ⟨d, hd⟩ : ∃ d, coverL m (arcs l) q = d := ⟨_, rfl⟩
    rw [hd] at ho HWV
    obtain ⟨h, cap5, rfl, hbh, hhl, hcap5, hcm5⟩ := own_shape ho (by omega)
    have HO := Lib.hid ho
    have HBB := Lib.hid (bel_then HB.out hb3)
    have HQ3 := Lib.hid (rdi_below HQ2.out hb3)
    clear hd ho hb3 z0 z1
    go_wp2_with fail
    go_loopw [8, 22] (fun v8 v22 wr => ∃ (k : Nat) (S : ByteArray), k ≤ m ∧ S.size ≤ 14 ∧ v22 = .int .i64 k ∧ v8 = .string S ∧ Hid (strB (textC d q a k) = S) ∧ wr = w3) (fun _ v22 _ => m - (intOf v22).toNat)
    case atStart => exact ⟨0, _, Nat.zero_le _, by simp [ByteArray.size], rfl, rfl, Lib.hid rfl, rfl⟩
    case round =>
      obtain ⟨k, S, hk, hS, rfl, rfl, HS, rfl⟩ := hrel
      by_cases hlt : k < m
      · have hS' : S.size < 14 := by rw [← HS.out, strB_size, textC_len]; omega
        have ck := own_cell HO.out hlt
        obtain ⟨x, hx⟩ : ∃ x, d.getD k 0 = x := ⟨_, rfl⟩
        rw [hx] at ck
        have HX := Lib.hid hx
        clear hx hS
        go_wp2_with fail
        refine (contains_c _ (k : Int) q _ HQ3.out).mono ?_; rintro e w' ⟨rfl, rfl⟩
        by_cases hmem : (k : Int) ∈ q
        · rw [decide_eq_true hmem]
          have HT := Lib.hid (text_step HS.out (show letC d q a k = 83 by unfold letC; rw [if_pos hmem]))
          go_wp2
          exact ⟨⟨k + 1, _, by omega, size_one hS', by go_num, rfl, HT, (by first | rfl | trivial)⟩, by simp [intOf]; omega⟩
        · rw [decide_eq_false hmem]
          go_wp2_with fail
          refine (inside_c _ _ _ _).mono ?_; rintro e w' ⟨rfl, rfl⟩
          by_cases hin : inB x 0 a = true
          · rw [hin]
            have HT := Lib.hid (text_step HS.out (show letC d q a k = 99 by unfold letC; rw [if_neg hmem, HX.out, if_pos hin]))
            go_wp2
            exact ⟨⟨k + 1, _, by omega, size_one hS', by go_num, rfl, HT, (by first | rfl | trivial)⟩, by simp [intOf]; omega⟩
          · have hin' : inB x 0 a = false := by simpa using hin
            rw [hin']
            have HT := Lib.hid (text_step HS.out (show letC d q a k = 45 by unfold letC; rw [if_neg hmem, HX.out, if_neg hin]))
            go_wp2
            exact ⟨⟨k + 1, _, by omega, size_one hS', by go_num, rfl, HT, (by first | rfl | trivial)⟩, by simp [intOf]; omega⟩
      · obtain rfl : k = m := by omega
        go_wp2
        go_ret2
        rw [HF.out, HWV.out, HS.out]
        exact ⟨rfl, HBB.out⟩
  · have hok : askC n l q a = false := by simpa using hok
    have HF : Hid (coverTextV n l q a = (⟨#[]⟩, false)) := Lib.hid (by unfold coverTextV; rw [hok]; rfl)
    by_cases hg : goodSta n l q = true
    · have hl : inB a 0 36000 = false := by unfold askC at hok; rw [hg] at hok; simpa using hok
      go_enter Try.func12, Try.ntmps12
      go_wp2_with (first | (go_at_call 57; refine (areStations_c n s _ l q _ _ (by simp [go_sem]) (by simp [go_sem]) (rd_below HR.out (hbx _)) (rdi_below HQ.out (hbx _))).mono ?_; rw [hg]; rintro e w' ⟨rfl, hb1⟩) | (go_at_call 58; refine (isLimit_c a _).mono ?_; rw [hl]; rintro e w' ⟨rfl, rfl⟩))
      go_ret2
      rw [HF.out]
      exact ⟨rfl, bel_then (hbx _) hb1⟩
    · have hg : goodSta n l q = false := by simpa using hg
      go_enter Try.func12, Try.ntmps12
      go_wp2_with (go_at_call 57; refine (areStations_c n s _ l q _ _ (by simp [go_sem]) (by simp [go_sem]) (rd_below HR.out (hbx _)) (rdi_below HQ.out (hbx _))).mono ?_; rw [hg]; rintro e w' ⟨rfl, hb1⟩)
      go_ret2
      rw [HF.out]
      exact ⟨rfl, bel_then (hbx _) hb1⟩
set_option maxRecDepth 100000 in
set_option maxHeartbeats 1000000 in
theorem coverTextS_c (n : Int) (s : Value) (l : List St) (v : Value) (q : List Int) (a : Int) (w : World) (hr : Rd w s l.length (l.flatMap St.cells)) (hq : RdI w v q) :
    Calls Try.prog 13 #[.agg #[.int .i64 n, s], v, .int .i64 a] w (fun e w' => e = .returned (.tuple #[.string (coverTextV n l q a).1, .bool (coverTextV n l q a).2]) ∧ Below w.heap.size w w') := by
  have HR := Lib.hid hr
  have HQ := Lib.hid hq
  clear hr hq
  have hbx : ∀ o, Below w.heap.size w (w.alloc o) := fun o => bel_al (Below.refl _ _) o
  by_cases hok : askC n l q a = true
  · have hk := askC_true hok
    obtain ⟨hok1, hlim, hg, hqm, hq6⟩ := hk
    obtain ⟨hlim0, hlim1⟩ := inB_true hlim
    obtain ⟨m, rfl⟩ := nat_of (goodTown_true hg).1
    have HF : Hid (coverTextV m l q a = coverTextW m l q a) := Lib.hid (by unfold coverTextV; rw [if_pos hok, Int.toNat_natCast])
    obtain ⟨hm1, hm2, _, _⟩ := goodTown_true hg
    have HG := Lib.hid hg
    have HM := Lib.hid hqm
    have HOK := Lib.hid hok
    have HOK1 := Lib.hid hok1
    have HLIM := Lib.hid hlim
    clear hok1 hlim
    clear hg hqm hok
    go_enter Try.func13, Try.ntmps13
    go_wp2_with fail
    generalize hw1 : World.alloc w _ = w1
    have k0 : w1.cell? ⟨w.heap.size, 0, none⟩ = some (.int .i64 m) := by subst hw1; simp [go_sem]
    have k1 : w1.cell? ⟨w.heap.size, 1, none⟩ = some s := by subst hw1; simp [go_sem]
    have hb1 : Below w.heap.size w w1 := by subst hw1; exact hbx _
    have hz : w.heap.size < w1.heap.size := by subst hw1; simp
    clear hw1 hbx
    refine (cvAsked_c m s l _ q a _ (rd_below HR.out hb1) (rdi_below HQ.out hb1)).mono ?_; rw [HOK.out]; rintro e w2 ⟨rfl, hb2⟩
    have hb12 := bel_then hb1 hb2
    have hz2 : w.heap.size < w2.heap.size := Nat.lt_of_lt_of_le hz hb2.size
    have z0 := (hb2.cell (p := ⟨w.heap.size, 0, none⟩) hz).trans k0
    have z1 := (hb2.cell (p := ⟨w.heap.size, 1, none⟩) hz).trans k1
    have HR2 := Lib.hid (rd_below HR.out hb12)
    have HQ2 := Lib.hid (rdi_below HQ.out hb12)
    have HB := Lib.hid hb12
    clear k0 k1 hb1 hb2 hz hb12
    go_wp2_with fail
    refine (cvSplit_c m s _ l q a _ HG.out HM.out HR2.out HQ2.out).mono ?_; rintro e w3 ⟨x, x', rfl, ho, _, hb3⟩
    have HWV : Hid (coverTextW m l q a = (strB (textC (coverL m (arcs l) q) q a m), true)) := Lib.hid rfl
    obtain ⟨d, hd⟩ : ∃ d, coverL m (arcs l) q = d := ⟨_, rfl⟩
    rw [hd] at ho HWV
    have HO := Lib.hid (rdi_own ho)
    have HBB := Lib.hid (bel_then HB.out hb3)
    have HQ3 := Lib.hid (rdi_below HQ2.out hb3)
    have b0 := (hb3.cell (p := ⟨w.heap.size, 0, none⟩) hz2).trans z0
    clear hd ho hb3 z0 z1
    go_wp2_with fail
    go_loopw [10, 11] (fun v8 v22 wr => ∃ (k : Nat) (S : ByteArray), k ≤ m ∧ S.size ≤ 14 ∧ v22 = .int .i64 k ∧ v8 = .string S ∧ Hid (strB (textC d q a k) = S) ∧ wr = w3) (fun _ v22 _ => m - (intOf v22).toNat)
    case atStart => exact ⟨0, _, Nat.zero_le _, by simp [ByteArray.size], rfl, rfl, Lib.hid rfl, rfl⟩
    case round =>
      obtain ⟨k, S, hk, hS, rfl, rfl, HS, rfl⟩ := hrel
      by_cases hlt : k < m
      · have hS' : S.size < 14 := by rw [← HS.out, strB_size, textC_len]; omega
        have HME : Hid (((k : Int) ∈ covIdx d a true m) = (inB (d.getD k 0) 0 a = true)) := Lib.hid (by
          apply propext
          unfold covIdx
          rw [selI_mem]
          unfold covP
          constructor
          · rintro ⟨i, h1, h2, h3⟩
            obtain rfl : k = i := by omega
            simpa using h3
          · intro h
            exact ⟨k, rfl, hlt, by simpa using h⟩)
        clear hS
        go_wp2_with fail
        refine (l1Has_c _ (k : Int) q _ HQ3.out).mono ?_; rintro e w' ⟨rfl, rfl⟩
        by_cases hmem : (k : Int) ∈ q
        · rw [decide_eq_true hmem]
          have HT := Lib.hid (text_step HS.out (show letC d q a k = 83 by unfold letC; rw [if_pos hmem]))
          go_wp2
          exact ⟨⟨k + 1, _, by omega, size_one hS', by go_num, rfl, HT, (by first | rfl | trivial)⟩, by simp [intOf]; omega⟩
        · rw [decide_eq_false hmem]
          go_wp2_with fail
          refine (l1Has_c _ (k : Int) _ _ HO.out).mono ?_; rintro e w' ⟨rfl, rfl⟩
          by_cases hin : inB (d.getD k 0) 0 a = true
          · rw [decide_eq_true (by rw [HME.out]; exact hin)]
            have HT := Lib.hid (text_step HS.out (show letC d q a k = 99 by unfold letC; rw [if_neg hmem, if_pos hin]))
            clear hin
            go_wp2
            exact ⟨⟨k + 1, _, by omega, size_one hS', by go_num, rfl, HT, (by first | rfl | trivial)⟩, by simp [intOf]; omega⟩
          · rw [decide_eq_false (by rw [HME.out]; exact hin)]
            have HT := Lib.hid (text_step HS.out (show letC d q a k = 45 by unfold letC; rw [if_neg hmem, if_neg hin]))
            clear hin
            go_wp2
            exact ⟨⟨k + 1, _, by omega, size_one hS', by go_num, rfl, HT, (by first | rfl | trivial)⟩, by simp [intOf]; omega⟩
      · obtain rfl : k = m := by omega
        go_wp2
        go_ret2
        rw [HF.out, HWV.out, HS.out]
        exact ⟨rfl, HBB.out⟩
  · have hok : askC n l q a = false := by simpa using hok
    have HF : Hid (coverTextV n l q a = (⟨#[]⟩, false)) := Lib.hid (by unfold coverTextV; rw [hok]; rfl)
    go_enter Try.func13, Try.ntmps13
    go_wp2_with (go_at_call 60; refine (cvAsked_c n s l _ q a _ (rd_below HR.out (hbx _)) (rdi_below HQ.out (hbx _))).mono ?_; rw [hok]; rintro e w' ⟨rfl, hb1⟩)
    go_ret2
    rw [HF.out]
    exact ⟨rfl, bel_then (hbx _) hb1⟩
end Go.Proofs.Ytahehdgkbhjpoaa

namespace Go.Proofs.Ytahehdgkbhjpoaa
set_option linter.unusedVariables false
set_option linter.unusedSimpArgs false
open Go.RowKit

set_option maxRecDepth 100000 in
set_option maxHeartbeats 1000000 in
theorem weakestNodeI_c (n : Int) (s : Value) (l : List St) (v : Value) (q : List Int)  (w : World) (hr : Rd w s l.length (l.flatMap St.cells)) (hq : RdI w v q) :
    Calls Try.prog 24 #[.agg #[.int .i64 n, s], v] w (fun e w' => e = .returned (.tuple #[.int .i64 (weakestNodeV n l q).1, .int .i64 (weakestNodeV n l q).2.1, .bool (weakestNodeV n l q).2.2]) ∧ Below w.heap.size w w') := by
  have HR := Lib.hid hr
  have HQ := Lib.hid hq
  clear hr hq
  have hbx : ∀ o, Below w.heap.size w (w.alloc o) := fun o => bel_al (Below.refl _ _) o
  by_cases hok : goodSta n l q = true
  · have hk := goodSta_true hok
    obtain ⟨hg, hqm, hq6⟩ := hk
    obtain ⟨m, rfl⟩ := nat_of (goodTown_true hg).1
    have HF : Hid (weakestNodeV m l q = weakestNodeW m l q) := Lib.hid (by unfold weakestNodeV; rw [if_pos hok, Int.toNat_natCast])
    obtain ⟨hm1, hm2, _, _⟩ := goodTown_true hg
    have HG := Lib.hid hg
    have HM := Lib.hid hqm
    have HOK := Lib.hid hok
    clear hg hqm hok
    go_enter Try.func24, Try.ntmps24
    go_wp2_with fail
    generalize hw1 : World.alloc w _ = w1
    have k0 : w1.cell? ⟨w.heap.size, 0, none⟩ = some (.int .i64 m) := by subst hw1; simp [go_sem]
    have k1 : w1.cell? ⟨w.heap.size, 1, none⟩ = some s := by subst hw1; simp [go_sem]
    have hb1 : Below w.heap.size w w1 := by subst hw1; exact hbx _
    have hz : w.heap.size < w1.heap.size := by subst hw1; simp
    clear hw1 hbx
    refine (areStations_c m s _ l q _ _ k0 k1 (rd_below HR.out hb1) (rdi_below HQ.out hb1)).mono ?_; rw [HOK.out]; rintro e w2 ⟨rfl, hb2⟩
    have hb12 := bel_then hb1 hb2
    have hz2 : w.heap.size < w2.heap.size := Nat.lt_of_lt_of_le hz hb2.size
    have z0 := (hb2.cell (p := ⟨w.heap.size, 0, none⟩) hz).trans k0
    have z1 := (hb2.cell (p := ⟨w.heap.size, 1, none⟩) hz).trans k1
    have HR2 := Lib.hid (rd_below HR.out hb12)
    have HQ2 := Lib.hid (rdi_below HQ.out hb12)
    have HB := Lib.hid hb12
    clear k0 k1 hb1 hb2 hz hb12
    go_wp2_with fail
    have hbI := bdI_cover HG.out m (by omega) q
    refine (coverTimes_c m s _ l q _ _ HG.out HM.out z0 z1 HR2.out HQ2.out).mono ?_; rintro e w3 ⟨x, rfl, ho, hb3⟩
    have hdl := coverL_len m (arcs l) q
    have HWV : Hid (weakestNodeW m l q = weakW (coverL m (arcs l) q)) := Lib.hid rfl
    obtain ⟨d, hd⟩ : ∃ d, coverL m (arcs l) q = d := ⟨_, rfl⟩
    rw [hd] at ho hdl hbI HWV
    have HO := Lib.hid (rdi_own ho)
    have HBI := Lib.hid hbI
    have hdp : 0 < d.length := by omega
    have HBB := Lib.hid (bel_then HB.out hb3)
    clear hd ho hbI hb3
    by_cases hneg : 0 ≤ idxI d (-1)
    · have HWN := Lib.hid (show weakW d = (idxI d (-1), -1, true) by unfold weakW; rw [if_pos hneg])
      obtain ⟨iv, hiv⟩ : ∃ iv, idxI d (-1) = iv := ⟨_, rfl⟩
      rw [hiv] at hneg HWN
      have HIV := Lib.hid hiv
      clear hiv
      go_wp2_with (go_at_call 77; refine (index_c _ (-1) d _ HO.out).mono ?_; rw [HIV.out]; rintro e w' ⟨rfl, rfl⟩)
      go_ret3
      rw [HF.out, HWV.out, HWN.out]
      exact ⟨rfl, HBB.out⟩
    · have HWN := Lib.hid (show weakW d = (idxI d (maxL d), maxL d, true) by unfold weakW; rw [if_neg hneg])
      obtain ⟨iv, hiv⟩ : ∃ iv, idxI d (-1) = iv := ⟨_, rfl⟩
      rw [hiv] at hneg
      have HIV := Lib.hid hiv
      have hneg' : iv < 0 := by omega
      clear hiv hneg
      obtain ⟨mx, hmx⟩ : ∃ mx, maxL d = mx := ⟨_, rfl⟩
      rw [hmx] at HWN
      have HMX := Lib.hid hmx
      clear hmx
      go_wp2_with fail
      refine (index_c _ (-1) d _ HO.out).mono ?_; rw [HIV.out]; rintro e w' ⟨rfl, rfl⟩
      go_wp2_with fail
      refine (max_c _ d _ HO.out hdp).mono ?_; rw [HMX.out]; rintro e w' ⟨rfl, rfl⟩
      go_wp2_with fail
      refine (index_c _ mx d _ HO.out).mono ?_; rintro e w' ⟨rfl, rfl⟩
      go_wp2
      go_ret3
      rw [HF.out, HWV.out, HWN.out]
      exact ⟨rfl, HBB.out⟩
  · have hok : goodSta n l q = false := by simpa using hok
    have HF : Hid (weakestNodeV n l q = (0, 0, false)) := Lib.hid (by unfold weakestNodeV; rw [hok]; rfl)
    go_enter Try.func24, Try.ntmps24
    go_wp2_with (go_at_call 57; refine (areStations_c n s _ l q _ _ (by simp [go_sem]) (by simp [go_sem]) (rd_below HR.out (hbx _)) (rdi_below HQ.out (hbx _))).mono ?_; rw [hok]; rintro e w' ⟨rfl, hb1⟩)
    go_ret3
    rw [HF.out]
    exact ⟨rfl, bel_then (hbx _) hb1⟩
set_option maxRecDepth 100000 in
set_option maxHeartbeats 1000000 in
theorem weakestNodeS_c (n : Int) (s : Value) (l : List St) (v : Value) (q : List Int)  (w : World) (hr : Rd w s l.length (l.flatMap St.cells)) (hq : RdI w v q) :
    Calls Try.prog 25 #[.agg #[.int .i64 n, s], v] w (fun e w' => e = .returned (.tuple #[.int .i64 (weakestNodeV n l q).1, .int .i64 (weakestNodeV n l q).2.1, .bool (weakestNodeV n l q).2.2]) ∧ Below w.heap.size w w') := by
  have HR := Lib.hid hr
  have HQ := Lib.hid hq
  clear hr hq
  have hbx : ∀ o, Below w.heap.size w (w.alloc o) := fun o => bel_al (Below.refl _ _) o
  by_cases hok : goodSta n l q = true
  · have hk := goodSta_true hok
    obtain ⟨hg, hqm, hq6⟩ := hk
    obtain ⟨m, rfl⟩ := nat_of (goodTown_true hg).1
    have HF : Hid (weakestNodeV m l q = weakestNodeW m l q) := Lib.hid (by unfold weakestNodeV; rw [if_pos hok, Int.toNat_natCast])
    obtain ⟨hm1, hm2, _, _⟩ := goodTown_true hg
    have HG := Lib.hid hg
    have HM := Lib.hid hqm
    have HOK := Lib.hid hok
    clear hg hqm hok
    go_enter Try.func25, Try.ntmps25
    go_wp2_with fail
    generalize hw1 : World.alloc w _ = w1
    have k0 : w1.cell? ⟨w.heap.size, 0, none⟩ = some (.int .i64 m) := by subst hw1; simp [go_sem]
    have k1 : w1.cell? ⟨w.heap.size, 1, none⟩ = some s := by subst hw1; simp [go_sem]
    have hb1 : Below w.heap.size w w1 := by subst hw1; exact hbx _
    have hz : w.heap.size < w1.heap.size := by subst hw1; simp
    clear hw1 hbx
    refine (cvStations_c m s _ l q _ (rd_below HR.out hb1) (rdi_below HQ.out hb1)).mono ?_; rw [HOK.out]; rintro e w2 ⟨rfl, hb2⟩
    have hb12 := bel_then hb1 hb2
    have hz2 : w.heap.size < w2.heap.size := Nat.lt_of_lt_of_le hz hb2.size
    have z0 := (hb2.cell (p := ⟨w.heap.size, 0, none⟩) hz).trans k0
    have z1 := (hb2.cell (p := ⟨w.heap.size, 1, none⟩) hz).trans k1
    have HR2 := Lib.hid (rd_below HR.out hb12)
    have HQ2 := Lib.hid (rdi_below HQ.out hb12)
    have HB := Lib.hid hb12
    clear k0 k1 hb1 hb2 hz hb12
    go_wp2_with fail
    have hbI := bdI_cover HG.out m (by omega) q
    refine (cvTimes_c m s _ l q _ HG.out HM.out HR2.out HQ2.out).mono ?_; rintro e w3 ⟨x, rfl, ho, hb3⟩
    rw [coverL_len] at ho
    have hdl := coverL_len m (arcs l) q
    have HWV : Hid (weakestNodeW m l q = weakW (coverL m (arcs l) q)) := Lib.hid rfl
    obtain ⟨d, hd⟩ : ∃ d, coverL m (arcs l) q = d := ⟨_, rfl⟩
    rw [hd] at ho hdl hbI HWV
    obtain ⟨h, cap5, rfl, hbh, hhl, hcap5, hcm5⟩ := own_shape ho (by omega)
    have HO := Lib.hid ho
    have HBI := Lib.hid hbI
    have HDL := Lib.hid hdl
    have HBB := Lib.hid (bel_then HB.out hb3)
    clear hd ho hbI hb3 hdl z0 z1
    go_wp2_with fail
    go_loopw [8, 20] (fun v8 v20 wr => ∃ (k b : Nat), k ≤ m ∧ b < m ∧ v20 = .int .i64 k ∧ v8 = .int .i64 b ∧ Hid (WeakInv d k b) ∧ wr = w3) (fun _ v20 _ => m - (intOf v20).toNat)
    case atStart => exact ⟨0, 0, Nat.zero_le _, by omega, rfl, rfl, Lib.hid (Or.inl ⟨rfl, rfl⟩), rfl⟩
    case round =>
      obtain ⟨k, b, hk, hb, rfl, rfl, HI, rfl⟩ := hrel
      have cb := own_cell HO.out hb
      have i0 : (0 : Int) ≤ (b : Int) := by omega
      have i1 : (b : Int) < (m : Int) := by omega
      obtain ⟨y, hy⟩ : ∃ y, d.getD b 0 = y := ⟨_, rfl⟩
      rw [hy] at cb
      have HY := Lib.hid hy
      clear hy
      by_cases hlt : k < m
      · have ck := own_cell HO.out hlt
        obtain ⟨x, hx⟩ : ∃ x, d.getD k 0 = x := ⟨_, rfl⟩
        rw [hx] at ck
        have HX := Lib.hid hx
        clear hx
        go_wp2
        all_goals first
          | (refine ⟨⟨k + 1, k, by omega, by omega, by go_num, rfl, Lib.hid (weak_yes HI.out (by rw [HY.out]; omega) (by rw [HY.out, HX.out]; omega)), (by first | rfl | trivial)⟩, by simp [intOf]; omega⟩)
          | (refine ⟨⟨k + 1, b, by omega, by omega, by go_num, rfl, Lib.hid (weak_no HI.out (by rw [HY.out, HX.out]; omega)), (by first | rfl | trivial)⟩, by simp [intOf]; omega⟩)
      · obtain rfl : k = m := by omega
        have hI := HI.out
        have e := weak_end HBI.out (by rw [HDL.out]; omega) (b := b) (by rw [HDL.out]; exact hI)
        rw [HY.out] at e
        have HE := Lib.hid e
        clear e hI
        go_wp2_with fail
        go_quiet (fail)
        go_wp2
        go_ret3
        rw [HF.out, HWV.out, HE.out]
        exact ⟨rfl, below_drewN HBB.out _⟩
  · have hok : goodSta n l q = false := by simpa using hok
    have HF : Hid (weakestNodeV n l q = (0, 0, false)) := Lib.hid (by unfold weakestNodeV; rw [hok]; rfl)
    go_enter Try.func25, Try.ntmps25
    go_wp2_with (go_at_call 79; refine (cvStations_c n s _ l q _ (rd_below HR.out (hbx _)) (rdi_below HQ.out (hbx _))).mono ?_; rw [hok]; rintro e w' ⟨rfl, hb1⟩)
    go_ret3
    rw [HF.out]
    exact ⟨rfl, bel_then (hbx _) hb1⟩
end Go.Proofs.Ytahehdgkbhjpoaa

namespace Go.Proofs.Ytahehdgkbhjpoaa
set_option linter.unusedVariables false
set_option linter.unusedSimpArgs false
open Go.RowKit

set_option maxRecDepth 100000 in
set_option maxHeartbeats 1000000 in
theorem leastLimitI_c (n : Int) (s : Value) (l : List St) (v : Value) (q : List Int)  (w : World) (hr : Rd w s l.length (l.flatMap St.cells)) (hq : RdI w v q) :
    Calls Try.prog 26 #[.agg #[.int .i64 n, s], v] w (fun e w' => e = .returned (.tuple #[.int .i64 (leastLimitV n l q).1, .bool (leastLimitV n l q).2]) ∧ Below w.heap.size w w') := by
  have HR := Lib.hid hr
  have HQ := Lib.hid hq
  clear hr hq
  have hbx : ∀ o, Below w.heap.size w (w.alloc o) := fun o => bel_al (Below.refl _ _) o
  by_cases hok : goodSta n l q = true
  · have hk := goodSta_true hok
    obtain ⟨hg, hqm, hq6⟩ := hk
    obtain ⟨m, rfl⟩ := nat_of (goodTown_true hg).1
    have HF : Hid (leastLimitV m l q = leastLimitW m l q) := Lib.hid (by unfold leastLimitV; rw [if_pos hok, Int.toNat_natCast])
    obtain ⟨hm1, hm2, _, _⟩ := goodTown_true hg
    have HG := Lib.hid hg
    have HM := Lib.hid hqm
    have HOK := Lib.hid hok
    clear hg hqm hok
    go_enter Try.func26, Try.ntmps26
    go_wp2_with fail
    generalize hw1 : World.alloc w _ = w1
    have k0 : w1.cell? ⟨w.heap.size, 0, none⟩ = some (.int .i64 m) := by subst hw1; simp [go_sem]
    have k1 : w1.cell? ⟨w.heap.size, 1, none⟩ = some s := by subst hw1; simp [go_sem]
    have hb1 : Below w.heap.size w w1 := by subst hw1; exact hbx _
    have hz : w.heap.size < w1.heap.size := by subst hw1; simp
    clear hw1 hbx
    refine (areStations_c m s _ l q _ _ k0 k1 (rd_below HR.out hb1) (rdi_below HQ.out hb1)).mono ?_; rw [HOK.out]; rintro e w2 ⟨rfl, hb2⟩
    have hb12 := bel_then hb1 hb2
    have hz2 : w.heap.size < w2.heap.size := Nat.lt_of_lt_of_le hz hb2.size
    have z0 := (hb2.cell (p := ⟨w.heap.size, 0, none⟩) hz).trans k0
    have z1 := (hb2.cell (p := ⟨w.heap.size, 1, none⟩) hz).trans k1
    have HR2 := Lib.hid (rd_below HR.out hb12)
    have HQ2 := Lib.hid (rdi_below HQ.out hb12)
    have HB := Lib.hid hb12
    clear k0 k1 hb1 hb2 hz hb12
    go_wp2_with fail
    refine (coverTimes_c m s _ l q _ _ HG.out HM.out z0 z1 HR2.out HQ2.out).mono ?_; rintro e w3 ⟨x, rfl, ho, hb3⟩
    have hdl := coverL_len m (arcs l) q
    have HWV : Hid (leastLimitW m l q = leastW (coverL m (arcs l) q)) := Lib.hid rfl
    obtain ⟨d, hd⟩ : ∃ d, coverL m (arcs l) q = d := ⟨_, rfl⟩
    rw [hd] at ho hdl HWV
    have HO := Lib.hid (rdi_own ho)
    have hdp : 0 < d.length := by omega
    have HBB := Lib.hid (bel_then HB.out hb3)
    have hle : minL d ≤ maxL d := by have h1 := minL_spec hdp; have h2 := maxL_spec hdp; exact h2.2 _ h1.1
    obtain ⟨mn, hmn⟩ : ∃ mn, minL d = mn := ⟨_, rfl⟩
    obtain ⟨mx, hmx⟩ : ∃ mx, maxL d = mx := ⟨_, rfl⟩
    rw [hmn, hmx] at hle
    have HMN := Lib.hid hmn
    have HMX := Lib.hid hmx
    clear hd ho hb3 hmn hmx
    by_cases c1 : mn < 0
    · have HE : Hid (leastW d = (0, false)) := Lib.hid (by unfold leastW; rw [if_pos (Or.inl (by rw [HMN.out]; exact c1))])
      go_wp2_with (go_at_call 81; refine (min_c _ d _ HO.out hdp).mono ?_; rw [HMN.out]; rintro e w' ⟨rfl, rfl⟩)
      go_ret2
      rw [HF.out, HWV.out, HE.out]
      exact ⟨rfl, HBB.out⟩
    · have c1' : 0 ≤ mn := by omega
      by_cases c2 : 36000 < mx
      · have HE : Hid (leastW d = (0, false)) := Lib.hid (by unfold leastW; rw [if_pos (Or.inr (by rw [HMX.out]; exact c2))])
        have hin : inB mx 0 36000 = false := by unfold inB; rw [decide_eq_false (show ¬ mx ≤ 36000 by omega)]; simp
        have d1 : decide (mn < 0) = false := decide_eq_false (by omega)
        go_wp2_with fail
        refine (min_c _ d _ HO.out hdp).mono ?_; rw [HMN.out]; rintro e w' ⟨rfl, rfl⟩
        go_wp2_with fail
        refine (max_c _ d _ HO.out hdp).mono ?_; rw [HMX.out]; rintro e w' ⟨rfl, rfl⟩
        go_wp2_with fail
        refine (isLimit_c _ _).mono ?_; rw [hin]; rintro e w' ⟨rfl, rfl⟩
        go_wp2_with fail
        go_ret2
        rw [HF.out, HWV.out, HE.out]
        exact ⟨rfl, HBB.out⟩
      · have HE : Hid (leastW d = (mx, true)) := Lib.hid (by unfold leastW; rw [if_neg (by rw [HMN.out, HMX.out]; omega), HMX.out])
        have hin : inB mx 0 36000 = true := inB_of (by omega) (by omega)
        have d1 : decide (mn < 0) = false := decide_eq_false (by omega)
        go_wp2_with fail
        refine (min_c _ d _ HO.out hdp).mono ?_; rw [HMN.out]; rintro e w' ⟨rfl, rfl⟩
        go_wp2_with fail
        refine (max_c _ d _ HO.out hdp).mono ?_; rw [HMX.out]; rintro e w' ⟨rfl, rfl⟩
        go_wp2_with fail
        refine (isLimit_c _ _).mono ?_; rw [hin]; rintro e w' ⟨rfl, rfl⟩
        go_wp2_with fail
        refine (max_c _ d _ HO.out hdp).mono ?_; rw [HMX.out]; rintro e w' ⟨rfl, rfl⟩
        go_wp2
        go_ret2
        rw [HF.out, HWV.out, HE.out]
        exact ⟨rfl, HBB.out⟩
  · have hok : goodSta n l q = false := by simpa using hok
    have HF : Hid (leastLimitV n l q = (0, false)) := Lib.hid (by unfold leastLimitV; rw [hok]; rfl)
    go_enter Try.func26, Try.ntmps26
    go_wp2_with (go_at_call 57; refine (areStations_c n s _ l q _ _ (by simp [go_sem]) (by simp [go_sem]) (rd_below HR.out (hbx _)) (rdi_below HQ.out (hbx _))).mono ?_; rw [hok]; rintro e w' ⟨rfl, hb1⟩)
    go_ret2
    rw [HF.out]
    exact ⟨rfl, bel_then (hbx _) hb1⟩
set_option maxRecDepth 100000 in
set_option maxHeartbeats 1000000 in
theorem leastLimitS_c (n : Int) (s : Value) (l : List St) (v : Value) (q : List Int)  (w : World) (hr : Rd w s l.length (l.flatMap St.cells)) (hq : RdI w v q) :
    Calls Try.prog 27 #[.agg #[.int .i64 n, s], v] w (fun e w' => e = .returned (.tuple #[.int .i64 (leastLimitV n l q).1, .bool (leastLimitV n l q).2]) ∧ Below w.heap.size w w') := by
  have HR := Lib.hid hr
  have HQ := Lib.hid hq
  clear hr hq
  have hbx : ∀ o, Below w.heap.size w (w.alloc o) := fun o => bel_al (Below.refl _ _) o
  by_cases hok : goodSta n l q = true
  · have hk := goodSta_true hok
    obtain ⟨hg, hqm, hq6⟩ := hk
    obtain ⟨m, rfl⟩ := nat_of (goodTown_true hg).1
    have HF : Hid (leastLimitV m l q = leastLimitW m l q) := Lib.hid (by unfold leastLimitV; rw [if_pos hok, Int.toNat_natCast])
    obtain ⟨hm1, hm2, _, _⟩ := goodTown_true hg
    have HG := Lib.hid hg
    have HM := Lib.hid hqm
    have HOK := Lib.hid hok
    clear hg hqm hok
    go_enter Try.func27, Try.ntmps27
    go_wp2_with fail
    generalize hw1 : World.alloc w _ = w1
    have k0 : w1.cell? ⟨w.heap.size, 0, none⟩ = some (.int .i64 m) := by subst hw1; simp [go_sem]
    have k1 : w1.cell? ⟨w.heap.size, 1, none⟩ = some s := by subst hw1; simp [go_sem]
    have hb1 : Below w.heap.size w w1 := by subst hw1; exact hbx _
    have hz : w.heap.size < w1.heap.size := by subst hw1; simp
    clear hw1 hbx
    refine (cvStations_c m s _ l q _ (rd_below HR.out hb1) (rdi_below HQ.out hb1)).mono ?_; rw [HOK.out]; rintro e w2 ⟨rfl, hb2⟩
    have hb12 := bel_then hb1 hb2
    have hz2 : w.heap.size < w2.heap.size := Nat.lt_of_lt_of_le hz hb2.size
    have z0 := (hb2.cell (p := ⟨w.heap.size, 0, none⟩) hz).trans k0
    have z1 := (hb2.cell (p := ⟨w.heap.size, 1, none⟩) hz).trans k1
    have HR2 := Lib.hid (rd_below HR.out hb12)
    have HQ2 := Lib.hid (rdi_below HQ.out hb12)
    have HB := Lib.hid hb12
    clear k0 k1 hb1 hb2 hz hb12
    go_wp2_with fail
    refine (cvTimes_c m s _ l q _ HG.out HM.out HR2.out HQ2.out).mono ?_; rintro e w3 ⟨x, rfl, ho, hb3⟩
    rw [coverL_len] at ho
    have hdl := coverL_len m (arcs l) q
    have HWV : Hid (leastLimitW m l q = leastW (coverL m (arcs l) q)) := Lib.hid rfl
    obtain ⟨d, hd⟩ : ∃ d, coverL m (arcs l) q = d := ⟨_, rfl⟩
    rw [hd] at ho hdl HWV
    obtain ⟨h, cap5, rfl, hbh, hhl, hcap5, hcm5⟩ := own_shape ho (by omega)
    have HO := Lib.hid ho
    have HDL := Lib.hid hdl
    have HBB := Lib.hid (bel_then HB.out hb3)
    clear hd ho hb3 hdl z0 z1
    go_wp2_with fail
    go_loopw [6, 17] (fun v6 v17 wr => ∃ (k : Nat) (t : Int), k ≤ m ∧ v17 = .int .i64 k ∧ v6 = .int .i64 t ∧ Hid ((d.take k).foldl max 0 = t) ∧ Hid (∀ x ∈ d.take k, 0 ≤ x) ∧ wr = w3) (fun _ v17 _ => m - (intOf v17).toNat)
    case atStart => exact ⟨0, 0, Nat.zero_le _, rfl, rfl, Lib.hid rfl, Lib.hid (by simp), rfl⟩
    case round =>
      obtain ⟨k, t, hk, rfl, rfl, HT, HP, rfl⟩ := hrel
      by_cases hlt : k < m
      · have ck := own_cell HO.out hlt
        have hkd : k < d.length := by rw [HDL.out]; exact hlt
        obtain ⟨x, hx⟩ : ∃ x, d.getD k 0 = x := ⟨_, rfl⟩
        rw [hx] at ck
        have HX := Lib.hid hx
        have HTS := Lib.hid (take_succ_of (getD_some hkd))
        clear hx
        by_cases hneg : x < 0
        · have HE := Lib.hid (least_neg hkd (by rw [HX.out]; exact hneg))
          go_wp2
          go_ret2
          rw [HF.out, HWV.out, HE.out]
          exact ⟨rfl, HBB.out⟩
        · go_wp2_with (go_at_call 82; refine (l1Most_c _ _ _).mono ?_; rintro e w' ⟨rfl, rfl⟩)
          refine ⟨⟨k + 1, maxI t x, by omega, by go_num, rfl, Lib.hid ?_, Lib.hid ?_, (by first | rfl | trivial)⟩, by simp [intOf]; omega⟩
          · rw [HTS.out, List.foldl_append, HT.out, HX.out, maxI_eq]; rfl
          · intro y hy
            rw [HTS.out, HX.out] at hy
            rcases List.mem_append.1 hy with h1 | h1
            · exact HP.out y h1
            · simp at h1; omega
      · obtain rfl : k = m := by omega
        have hT := HT.out
        have hP := HP.out
        rw [List.take_of_length_le (by rw [HDL.out]; exact Nat.le_refl _)] at hT hP
        have e := least_fit (by rw [HDL.out]; omega) hP
        rw [hT] at e
        by_cases hin : inB t 0 36000 = true
        · rw [if_pos hin] at e
          have HE := Lib.hid e
          clear e hT hP
          go_wp2_with (go_at_call 69; refine (dsLimit_c _ _).mono ?_; rw [hin]; rintro e w' ⟨rfl, rfl⟩)
          go_ret2
          rw [HF.out, HWV.out, HE.out]
          exact ⟨rfl, HBB.out⟩
        · rw [if_neg hin] at e
          have HE := Lib.hid e
          have hin' : inB t 0 36000 = false := by simpa using hin
          clear e hT hP
          go_wp2_with (go_at_call 69; refine (dsLimit_c _ _).mono ?_; rw [hin']; rintro e w' ⟨rfl, rfl⟩)
          go_ret2
          rw [HF.out, HWV.out, HE.out]
          exact ⟨rfl, HBB.out⟩
  · have hok : goodSta n l q = false := by simpa using hok
    have HF : Hid (leastLimitV n l q = (0, false)) := Lib.hid (by unfold leastLimitV; rw [hok]; rfl)
    go_enter Try.func27, Try.ntmps27
    go_wp2_with (go_at_call 79; refine (cvStations_c n s _ l q _ (rd_below HR.out (hbx _)) (rdi_below HQ.out (hbx _))).mono ?_; rw [hok]; rintro e w' ⟨rfl, hb1⟩)
    go_ret2
    rw [HF.out]
    exact ⟨rfl, bel_then (hbx _) hb1⟩
end Go.Proofs.Ytahehdgkbhjpoaa
