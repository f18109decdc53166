/-
  What the library's variables hold; strings.Split and strings.SplitAfter at this program; impl.readNumber, impl.readNumbers. impl.ParseFleet: what it gives at every text. spec.ParseFleet: what it gives at every text. (joined by pack.py: ParE ParI ParT)
-/
import Derived.Test.YtgcdgcidjjdhmaaGreatDoorK38
import Derived.Test.YtgcdgcidjjdhmaaGreatDoorK36
import Derived.Test.YtgcdgcidjjdhmaaGreatDoorK40
import Derived.Test.YtgcdgcidjjdhmaaGreatDoorK7
import Derived.Test.YtgcdgcidjjdhmaaGreatDoorK9
import Derived.Test.YtgcdgcidjjdhmaaGreatDoorK6
import Derived.Test.YtgcdgcidjjdhmaaGreatDoorK8
import Derived.Lib.AtoiErrMem
import Derived.Lib.AppendIntMem
import Derived.Lib.LaidTab
import Derived.Lib.AtoiAllCases
import Derived.Test.YtgcdgcidjjdhmaaGreatDoorK37
import Derived.Test.YtgcdgcidjjdhmaaGreatDoorK32
import Derived.Test.YtgcdgcidjjdhmaaGreatDoorK31
import Derived.Test.YtgcdgcidjjdhmaaGreatDoorK21
namespace Go.Proofs.YtgcdgcidjjdhmaaGreatDoor
set_option linter.unusedVariables false
set_option linter.unusedSimpArgs false
open Go.RowKit

/-- What the library's variables hold. -/
structure LibW (w : World) : Prop where
  ml : ∃ m : Int, w.cell? ⟨0, 0, none⟩ = some (.int .i64 m)
  es : ∃ te pe, w.cell? ⟨3, 0, none⟩ = some (.iface te pe)
  er : ∃ te pe, w.cell? ⟨4, 0, none⟩ = some (.iface te pe)
  pt : Lib.TabIs Tryz.prog w "internal/strconv.uint64pow10" .u64 Lib.pow10Tab
theorem cell_kept {w w' : World} (hb : Below w.heap.size w w') {a : Addr} {v : Value} (hc : w.cell? a = some v) : w'.cell? a = some v := (hb.cell (World.block_lt_of_cell? w a hc)).trans hc
theorem LibW.below {w w' : World} (h : LibW w) (hb : Below w.heap.size w w') : LibW w' := by
  obtain ⟨⟨m, h1⟩, ⟨t2, p2, h2⟩, ⟨t3, p3, h3⟩, h4⟩ := h
  exact ⟨⟨m, cell_kept hb h1⟩, ⟨t2, p2, cell_kept hb h2⟩, ⟨t3, p3, cell_kept hb h3⟩, Lib.tabBelow_of_tabIs h4 w' hb⟩
theorem wordsI_len (s : ByteArray) : (wordsI s).length = Lib.countB s ⟨#[47]⟩ + 1 := Lib.splitB_all _ (by decide) 0 _ s rfl
theorem partsI_len (s : ByteArray) : (partsI s).length = Lib.countB s ⟨#[59]⟩ + 1 := Lib.splitB_all _ (by decide) 1 _ s rfl
theorem count_le47 (s : ByteArray) : Lib.countB s ⟨#[47]⟩ ≤ s.size := Lib.countB_le ⟨#[47]⟩ (by decide) _ s (Nat.le_refl _)
theorem count_le59 (s : ByteArray) : Lib.countB s ⟨#[59]⟩ ≤ s.size := Lib.countB_le ⟨#[59]⟩ (by decide) _ s (Nat.le_refl _)
theorem split_c (s : ByteArray) (w : World) (hs : s.size ≤ 1000) (hL : LibW w) :
    Calls Tryz.prog 71 #[.string s, .string ⟨#[47]⟩] w fun e w' => ∃ v, e = .returned v ∧ RdS w' v (wordsI s) ∧ Below w.heap.size w w' := by
  obtain ⟨m, hm⟩ := hL.ml
  refine (Tryz.strings_Split s ⟨#[47]⟩ m w (by omega) hm (by decide)).mono ?_
  rintro e w' ⟨rfl, rfl⟩
  have hl := wordsI_len s
  have hc := count_le47 s
  refine ⟨_, rfl, ?_, bel_al (Below.refl _ _) _⟩
  unfold RdS
  rw [hl]
  exact rd_new w rfl (Nat.le_refl _) (by rw [maxLen_eq]; omega)
set_option maxRecDepth 100000 in
set_option maxHeartbeats 1000000 in
theorem splitAfter_c (s : ByteArray) (w : World) (hs : s.size ≤ 1000) (hL : LibW w) :
    Calls Tryz.prog 50 #[.string s, .string ⟨#[59]⟩] w fun e w' => ∃ v, e = .returned v ∧ RdS w' v (partsI s) ∧ Below w.heap.size w w' := by
  obtain ⟨m, hm⟩ := hL.ml
  have hl := partsI_len s
  have hc := count_le59 s
  have q1 : ((⟨#[59]⟩ : ByteArray).size : Int) = 1 := by decide
  have hG : Calls Tryz.prog 68 #[.string s, .string ⟨#[59]⟩, .int .i64 1, .int .i64 (-1)] w fun e w' => ∃ v, e = .returned v ∧ RdS w' v (partsI s) ∧ Below w.heap.size w w' := by
    have h := Tryz.strings_genSplit s ⟨#[59]⟩ 1 (-1) (Lib.countB s ⟨#[59]⟩ + 1) m w (by omega) hm (by decide) (by decide) (by decide) (by decide) (by rw [if_pos (by decide)]; omega)
    refine h.mono ?_
    rintro e w' ⟨rfl, rfl⟩
    have hp : Lib.splitB ⟨#[59]⟩ 1 (Lib.countB s ⟨#[59]⟩ + 1 - 1) s = partsI s := rfl
    rw [hp, ← hl]
    refine ⟨_, rfl, ?_, bel_al (Below.refl _ _) _⟩
    rw [Lib.cellsOf_full]
    exact rd_new w rfl (Nat.le_refl _) (by rw [maxLen_eq]; omega)
  have HG := Lib.hid hG
  clear hG hm hl hc
  go_enter Tryz.func50, Tryz.ntmps50
  go_wp2_with fail
  refine HG.out.mono ?_; rintro e w1 ⟨v, rfl, hr, hb⟩
  have HR := Lib.hid hr
  have HB := Lib.hid hb
  clear hr hb
  go_wp2
  go_ret
  exact ⟨_, rfl, HR.out, HB.out⟩
theorem bl_decide (a b : ByteArray) : (a.toList == b.toList) = decide (a = b) := by
  by_cases h : a = b
  · subst h; simp
  · rw [decide_eq_false h]
    exact beq_false_of_ne (fun e => h ((bl_iff _ _).1 e))
theorem ba_list (a : List UInt8) (s : ByteArray) : decide ((⟨a.toArray⟩ : ByteArray) = s) = decide (a = s.data.toList) := by
  by_cases h : a = s.data.toList
  · subst h; simp
  · rw [decide_eq_false h, decide_eq_false (fun e => h (by rw [← e]))]
set_option maxRecDepth 100000 in
set_option maxHeartbeats 1000000 in
theorem readNumber_c (s : ByteArray) (w : World) (hs : s.size ≤ 1000) (hL : LibW w) :
    Calls Tryz.prog 72 #[.string s] w fun e w' => e = .returned (.tuple #[.int .i64 (rnV s.data.toList).1, .bool (rnV s.data.toList).2]) ∧ Below w.heap.size w w' := by
  have HL := Lib.hid hL
  clear hL
  cases h : Lib.atoiAll s.data.toList with
  | ok v =>
    have hv : rnV s.data.toList = (v, decide (Lib.itoa v = s.data.toList)) := by unfold rnV; rw [h]
    have HV := Lib.hid hv
    have HB := Lib.hid (Lib.atoiAll_bounds h)
    have HA := Lib.hid (Tryz.strconv_Atoi_ok s (by omega) v h w)
    clear hv h
    go_enter Tryz.func72, Tryz.ntmps72
    go_wp2_with fail
    refine HA.out.mono ?_; rintro e w1 ⟨rfl, hw⟩
    have hb : Below w.heap.size w w1 := by
      rcases hw with rfl | ⟨t, rfl⟩
      · exact Below.refl _ _
      · exact Lib.bytesWorld_below w _ t
    have HB1 := Lib.hid hb
    clear hw hb
    go_wp2_with fail
    refine (Tryz.strconv_Itoa v HB.out.1 HB.out.2 _ (HL.out.below HB1.out).pt).mono ?_; rintro e w2 ⟨rfl, k, os, rfl⟩
    have HB2 := Lib.hid (bel_then HB1.out (Lib.below_grow _ w1 (Nat.le_refl _) k os))
    generalize Go.Sort.grow (World.drewN w1 k) os = w2 at HB2 ⊢
    have HE : Hid (∀ x : ByteArray, x = ⟨(Lib.itoa v).toArray⟩ → (x.toList == s.toList) = decide (Lib.itoa v = s.data.toList)) := Lib.hid (by
      rintro x rfl
      rw [bl_decide, ba_list])
    obtain ⟨x, hx⟩ : ∃ x : ByteArray, x = ⟨(Lib.itoa v).toArray⟩ := ⟨_, rfl⟩
    rw [← hx]
    have hxe := HE.out x hx
    clear hx HE
    go_wp2
    go_ret2
    rw [HV.out]
    exact ⟨rfl, HB2.out⟩
  | «syntax» =>
    have hv : rnV s.data.toList = (0, false) := by unfold rnV; rw [h]
    obtain ⟨te, pe, hev⟩ := HL.out.es
    have HV := Lib.hid hv
    have HA := Lib.hid (Tryz.strconv_Atoi_syntax s (by omega) h _ w hev (.inr ⟨te, pe, rfl⟩))
    clear hv h hev
    go_enter Tryz.func72, Tryz.ntmps72
    go_wp2_with fail
    refine HA.out.mono ?_; rintro e w1 ⟨N, rfl, -, -, hb⟩
    have HB1 := Lib.hid hb
    clear hb
    go_wp2
    go_ret2
    rw [HV.out]
    exact ⟨rfl, HB1.out⟩
  | range =>
    have hv : rnV s.data.toList = (Lib.atoiSat s.data.toList, false) := by unfold rnV; rw [h]
    obtain ⟨te, pe, hev⟩ := HL.out.er
    have HV := Lib.hid hv
    have HA := Lib.hid (Tryz.strconv_Atoi_range s (by omega) h _ w hev (.inr ⟨te, pe, rfl⟩))
    clear hv h hev
    go_enter Tryz.func72, Tryz.ntmps72
    go_wp2_with fail
    refine HA.out.mono ?_; rintro e w1 ⟨N, rfl, -, -, hb⟩
    have HB1 := Lib.hid hb
    clear hb
    go_wp2
    go_ret2
    rw [HV.out]
    exact ⟨rfl, HB1.out⟩

theorem fold_dead {α β : Type} (f : Option β → α → Option β) (h : ∀ x, f none x = none) : ∀ p : List α, p.foldl f none = none
  | [] => rfl
  | x :: p => by rw [List.foldl_cons, h, fold_dead f h p]
theorem fold_to {α β : Type} (f : β → α → β) (a : β) {p : List α} {k : Nat} {x : α} (hx : p[k]? = some x) : (p.take (k + 1)).foldl f a = f ((p.take k).foldl f a) x := by
  rw [List.take_add_one, hx]; simp
theorem fold_over {α β : Type} (f : β → α → β) (a : β) (p : List α) (k : Nat) : p.foldl f a = (p.drop k).foldl f ((p.take k).foldl f a) := by
  rw [← List.foldl_append, List.take_append_drop]
theorem fold_stop {α β : Type} (f : Option β → α → Option β) (h : ∀ x, f none x = none) (a : Option β) {p : List α} {k : Nat} {x : α} (hx : p[k]? = some x) (hn : f ((p.take k).foldl f a) x = none) : p.foldl f a = none := by
  rw [fold_over f a p (k + 1), fold_to f a hx, hn, fold_dead f h]
theorem rnStep_no (x : ByteArray) : rnStep none x = none := rfl
theorem rnStep_yes {l : List Int} {x : ByteArray} (h : (rnV x.data.toList).2 = true) : rnStep (some l) x = some (l ++ [(rnV x.data.toList).1]) := by unfold rnStep; rw [Option.bind_some, if_pos h]
theorem rnStep_fail {l : List Int} {x : ByteArray} (h : (rnV x.data.toList).2 = false) : rnStep (some l) x = none := by unfold rnStep; rw [Option.bind_some, h, if_neg (by simp)]
theorem rns_len {p : List ByteArray} : ∀ {k : Nat} {l : List Int}, k ≤ p.length → (p.take k).foldl rnStep (some []) = some l → l.length = k
  | 0, l, _, h => by
    obtain rfl := Option.some.inj h
    rfl
  | k + 1, l, hk, h => by
    have hx : p[k]? = some p[k] := List.getElem?_eq_getElem (by omega)
    rw [fold_to _ _ hx] at h
    cases hq : (p.take k).foldl rnStep (some []) with
    | none => rw [hq] at h; cases h
    | some q =>
      rw [hq] at h
      cases hb : (rnV p[k].data.toList).2 with
      | false => rw [rnStep_fail hb] at h; cases h
      | true =>
        rw [rnStep_yes hb] at h
        obtain rfl := Option.some.inj h
        have := rns_len (k := k) (by omega) hq
        simp [this]
set_option maxRecDepth 100000 in
set_option maxHeartbeats 2000000 in
theorem readNumbers_c (s : ByteArray) (w : World) (hs : s.size ≤ 1000) (hL : LibW w) :
    Calls Tryz.prog 53 #[.string s, .string ⟨#[47]⟩] w fun e w' => ∃ v, e = .returned (.tuple #[v, .bool (rnsV (wordsI s)).isSome]) ∧ w'.ownsRow w.heap.size 3 1 v ((rnsV (wordsI s)).getD []).length (ints ((rnsV (wordsI s)).getD [])) ∧ Below w.heap.size w w' := by
  have HL := Lib.hid hL
  clear hL
  have HP := Lib.hid (fun x (hx : x ∈ wordsI s) => Nat.le_trans (splitB_sizes ⟨#[47]⟩ 0 _ s x hx) hs)
  have hl := wordsI_len s
  have hc := count_le47 s
  have hl3 : (wordsI s).length ≤ 1001 := by omega
  have HQ : Hid (rnsV (wordsI s) = (wordsI s).foldl rnStep (some [])) := Lib.hid rfl
  have HS := Lib.hid (split_c s w hs HL.out)
  obtain ⟨p, hp⟩ : ∃ p, wordsI s = p := ⟨_, rfl⟩
  rw [hp] at HP HQ HS hl3 ⊢
  obtain ⟨r, hr⟩ : ∃ r, rnsV p = r := ⟨_, rfl⟩
  rw [hr] at HQ ⊢
  clear hl hc hp hr
  obtain ⟨i0, hi, hz0, hz1, hz2⟩ := info_parts Tryz.infoInt
  go_enter Tryz.func53, Tryz.ntmps53
  go_wp2_with fail
  refine HS.out.mono ?_; rintro e w1 ⟨v1, rfl, hr1, hb1⟩
  obtain ⟨A, c, rfl, hc, hm, hr⟩ := hr1
  rw [maxLen_eq] at hm
  have HR := Lib.hid hr
  have HB1 := Lib.hid hb1
  clear hr hb1
  go_wp2_with fail
  go_loopw [6, 15] (fun vo vi wr => ∃ (k : Nat) (l : List Int), k ≤ p.length ∧ vi = .int .i64 k ∧ Hid ((p.take k).foldl rnStep (some []) = some l) ∧ Hid (wr.ownsRow w1.heap.size 3 1 vo k (ints l)) ∧ Hid (Below w1.heap.size w1 wr)) (fun _ vi _ => p.length - (intOf vi).toNat)
  case atStart => exact ⟨0, [], Nat.zero_le _, rfl, Lib.hid rfl, Lib.hid (World.ownsRow_nil _ _ _ _), Lib.hid (Below.refl _ _)⟩
  case round =>
    obtain ⟨k, l, hk, rfl, HF, HO, HB⟩ := hrel
    have hbw := HB.out.size
    have hbw1 := HB1.out.size
    by_cases hlt : k < p.length
    · obtain ⟨b, off, rfl, hbl, hcell⟩ := HR.out (by omega)
      obtain ⟨x, hx⟩ : ∃ x, p[k]? = some x := ⟨_, List.getElem?_eq_getElem hlt⟩
      have c0 : wr.cell? ⟨b, off + k, none⟩ = some (.string x) := cell_at hcell HB.out hbl (strs_get hx)
      have hx3 := HP.out x (List.mem_of_getElem? hx)
      have HX := Lib.hid hx
      have i1 : (k : Int) < (p.length : Int) := by omega
      have HLW := Lib.hid (HL.out.below (bel_then HB1.out HB.out))
      clear hcell hx
      go_wp2_with fail
      refine (readNumber_c x _ hx3 HLW.out).mono ?_
      obtain ⟨n, hn⟩ : ∃ n, (rnV x.data.toList).1 = n := ⟨_, rfl⟩
      cases hok : (rnV x.data.toList).2 with
      | true =>
        rw [hn]
        rintro e w2 ⟨rfl, hb⟩
        have HF2 : Hid ((p.take (k + 1)).foldl rnStep (some []) = some (l ++ [n])) := Lib.hid (by rw [fold_to _ _ HX.out, HF.out, rnStep_yes hok, hn])
        have HOK := Lib.hid (own_below HO.out hb)
        have HB2 := Lib.hid (bel_then HB.out hb)
        have hb2 := HB2.out.size
        clear hb hn hok
        go_wp2_with (at_builtin; go_must (refine wpList_app_rd _ rfl _ _ 55 rfl w1.heap.size 3 i0 (.int .i64 0) 1 8 Tryz.underlying55 hi hz0 hz1 hz2 rfl (by decide) _ _ _ rfl (HOK.out.alloc _) _ 1 [.int .i64 n] rfl (rd_new _ (by omega) (by omega) (by rw [maxLen_eq]; omega)) rfl (by intro u hu; simp at hu; rcases hu with rfl; rfl) (by rw [maxLen_eq]; omega) (by omega) (by simp; omega) ?_); intro v7 w7 hown7 hgrow7 _)
        have HN7 : Hid (w7.ownsRow w1.heap.size 3 1 v7 (k + 1) (ints (l ++ [n]))) := Lib.hid (by rw [ints_append]; exact hown7)
        have HB7 : Hid (Below w1.heap.size w1 w7) := Lib.hid (bel_grown (bel_al HB2.out _) hgrow7 (fun g e => by have := (HOK.out.lt g e).1; omega))
        exact ⟨⟨k + 1, l ++ [n], by omega, by go_num, HF2, HN7, HB7⟩, by simp [intOf]; omega⟩
      | false =>
        rw [hn]
        rintro e w2 ⟨rfl, hb⟩
        have HZ : Hid (r = none) := Lib.hid (by rw [HQ.out]; exact fold_stop _ rnStep_no _ HX.out (by rw [HF.out, rnStep_fail hok]))
        have HB2 := Lib.hid (bel_then (bel_then HB1.out HB.out) hb)
        clear hb hn hok
        go_wp2
        go_ret2
        rw [HZ.out]
        exact ⟨_, rfl, World.ownsRow_nil _ _ _ _, HB2.out⟩
    · obtain rfl : k = p.length := by omega
      have HZ : Hid (r = some l) := Lib.hid (by rw [HQ.out, ← HF.out, List.take_length])
      have HLN := Lib.hid (rns_len (Nat.le_refl _) HF.out)
      go_wp2
      go_ret2
      rw [HZ.out]
      refine ⟨_, rfl, ?_, (bel_then HB1.out HB.out)⟩
      have ho := own_base HO.out hbw1
      rw [← HLN.out] at ho
      exact ho
end Go.Proofs.YtgcdgcidjjdhmaaGreatDoor

namespace Go.Proofs.YtgcdgcidjjdhmaaGreatDoor
set_option linter.unusedVariables false
set_option linter.unusedSimpArgs false
open Go.RowKit

theorem apStepI_no (x : ByteArray) : apStepI none x = none := by unfold apStepI apStep; split <;> rfl
theorem apStepI_skip {o : Option (List Ap)} {x : ByteArray} (h : x.size = 0) : apStepI o x = o := by unfold apStepI; rw [if_pos h]
theorem apStepI_fail {l : List Ap} {x : ByteArray} (h : ¬ x.size = 0) (hr : rowI x = none) : apStepI (some l) x = none := by unfold apStepI apStep; rw [if_neg h, hr]; rfl
theorem apStepI_add {l : List Ap} {x : ByteArray} {a : Ap} (h : ¬ x.size = 0) (hr : rowI x = some a) : apStepI (some l) x = some (l ++ [a]) := by unfold apStepI apStep; rw [if_neg h, hr]; rfl
theorem rowI_none {x : ByteArray} (h : rnsV (wordsI (restI x)) = none) : rowI x = none := by unfold rowI; rw [h]
theorem rowI_len {x : ByteArray} {q : List Int} (h : rnsV (wordsI (restI x)) = some q) (hq : q.length ≠ 4) : rowI x = none := by
  unfold rowI
  rw [h]
  match q, hq with
  | [], _ => rfl
  | [_], _ => rfl
  | [_, _], _ => rfl
  | [_, _, _], _ => rfl
  | [_, _, _, _], hq => exact absurd rfl hq
  | _ :: _ :: _ :: _ :: _ :: _, _ => rfl
theorem rowI_four {x : ByteArray} {a b c d : Int} (h : rnsV (wordsI (restI x)) = some [a, b, c, d]) : rowI x = some ⟨nameI x, a, b, c, d⟩ := by unfold rowI; rw [h]
theorem four_of {q : List Int} (h : q.length = 4) : ∃ a b c d, q = [a, b, c, d] := by
  match q, h with
  | [a, b, c, d], _ => exact ⟨a, b, c, d, rfl⟩
theorem endV_none (s : ByteArray) : endV s none = ([], false) := rfl
theorem endV_bad {s : ByteArray} {l : List Ap} (h : goodFl l = false) : endV s (some l) = ([], false) := by simp [endV, h]
theorem endV_ne {s : ByteArray} {l : List Ap} (h : flT l l.length ≠ s) : endV s (some l) = ([], false) := by simp [endV, h]
theorem endV_yes {s : ByteArray} {l : List Ap} (hg : goodFl l = true) (h : flT l l.length = s) : endV s (some l) = (l, true) := by simp [endV, hg, h]
def trimI (x : ByteArray) : ByteArray := ⟨(Lib.trimSuffix x.data.toList [59]).toArray⟩
theorem trim_c (x : ByteArray) (w : World) (hx : x.size ≤ 1000) : Calls Tryz.prog 52 #[.string x, .string ⟨#[59]⟩] w fun e w' => e = .returned (.string (trimI x)) ∧ w = w' := by
  refine (Tryz.strings_TrimSuffix x ⟨#[59]⟩ w (by omega)).mono ?_
  rintro e w' ⟨rfl, rfl⟩
  exact ⟨rfl, rfl⟩
theorem cut_c (x : ByteArray) (w : World) (hx : x.size ≤ 1000) (hL : LibW w) : Calls Tryz.prog 51 #[.string (trimI x), .string ⟨#[47]⟩] w fun e w' => ∃ b : Bool, e = .returned (.tuple #[.string (nameI x), .string (restI x), .bool b]) ∧ Below w.heap.size w w' := by
  obtain ⟨m, hm⟩ := hL.ml
  have hsz : (trimI x).size ≤ 1000 := by
    have h1 := trim_le x.data.toList [59]
    have h2 : (trimI x).size = (Lib.trimSuffix x.data.toList [59]).length := Lib.size_eq _
    have h3 := Lib.size_eq x
    omega
  refine (Tryz.strings_Cut (trimI x) ⟨#[47]⟩ m w (by omega) hm).mono ?_
  rintro e w' ⟨rfl, n, rfl⟩
  exact ⟨_, rfl, below_drewN (Below.refl _ _) n⟩
set_option maxRecDepth 100000 in
set_option maxHeartbeats 4000000 in
theorem parseFleetI_c (s : ByteArray) (w : World) (hs : s.size ≤ 1000) (hL : LibW w) :
    Calls Tryz.prog 23 #[.string s] w (FlR (parI s) w) := by
  have HL := Lib.hid hL
  clear hL
  have HP := Lib.hid (fun x (hx : x ∈ partsI s) => Nat.le_trans (splitB_sizes ⟨#[59]⟩ 1 _ s x hx) hs)
  have hl := partsI_len s
  have hc := count_le59 s
  have hl3 : (partsI s).length ≤ 1001 := by omega
  have HS := Lib.hid (splitAfter_c s w hs HL.out)
  obtain ⟨r, hr⟩ : ∃ r, (partsI s).foldl apStepI (some []) = r := ⟨_, rfl⟩
  have HV : Hid (parI s = endV s r) := Lib.hid (by unfold parI; rw [hr])
  obtain ⟨p, hp⟩ : ∃ p, partsI s = p := ⟨_, rfl⟩
  rw [hp] at HP HS hl3 hr
  have HQ := Lib.hid hr.symm
  clear hl hc hp hr
  obtain ⟨i0, hi, hz0, hz1, hz2⟩ := info_parts Tryz.infoAp
  go_enter Tryz.func23, Tryz.ntmps23
  go_wp2_with fail
  refine HS.out.mono ?_; rintro e w1 ⟨v1, rfl, hr1, hb1⟩
  obtain ⟨A, c, rfl, hc, hm, hr⟩ := hr1
  rw [maxLen_eq] at hm
  have HR := Lib.hid hr
  have HB1 := Lib.hid hb1
  clear hr hb1
  go_wp2_with fail
  go_loopw [4, 15] (fun vo vi wr => ∃ (k : Nat) (l : List Ap), k ≤ p.length ∧ l.length ≤ k ∧ vi = .int .i64 k ∧ Hid (∀ a ∈ l, a.nm.size ≤ 1000) ∧ Hid ((p.take k).foldl apStepI (some []) = some l) ∧ Hid (wr.ownsRow w1.heap.size 35 5 vo l.length (l.flatMap Ap.cells)) ∧ Hid (Below w1.heap.size w1 wr)) (fun _ vi _ => p.length - (intOf vi).toNat)
  case atStart => exact ⟨0, [], Nat.zero_le _, Nat.le_refl _, rfl, Lib.hid (by simp), Lib.hid rfl, Lib.hid (World.ownsRow_nil _ _ _ _), Lib.hid (Below.refl _ _)⟩
  case round =>
    obtain ⟨k, l, hk, hlk, rfl, HN, HF, HO, HB⟩ := hrel
    obtain ⟨wA, rfl⟩ : ∃ wA : World, wA = wr := ⟨_, rfl⟩
    have hbw := HB.out.size
    have hbw1 := HB1.out.size
    by_cases hlt : k < p.length
    · obtain ⟨b, off, rfl, hbl, hcell⟩ := HR.out (by omega)
      obtain ⟨x, hx⟩ : ∃ x, p[k]? = some x := ⟨_, List.getElem?_eq_getElem hlt⟩
      have c0 : wA.cell? ⟨b, off + k, none⟩ = some (.string x) := cell_at hcell HB.out hbl (strs_get hx)
      have hx3 := HP.out x (List.mem_of_getElem? hx)
      have HX := Lib.hid hx
      have i1 : (k : Int) < (p.length : Int) := by omega
      have HLW := Lib.hid (HL.out.below (bel_then HB1.out HB.out))
      clear hcell hx
      by_cases hx0 : x.size = 0
      · have HF2 : Hid ((p.take (k + 1)).foldl apStepI (some []) = some l) := Lib.hid (by rw [fold_to _ _ HX.out, HF.out, apStepI_skip hx0])
        obtain rfl : x = ⟨#[]⟩ := ba_ext (by
          have := Lib.size_eq x
          rw [hx0] at this
          exact List.eq_nil_of_length_eq_zero this.symm)
        clear hx3 hx0 HX
        go_wp2_with fail
        exact ⟨⟨k + 1, l, by omega, by omega, by go_num, HN, HF2, HO, HB⟩, by simp [intOf]; omega⟩
      · have hxe : x.toList.isEmpty = false := by
          rw [Lib.toList_data, List.isEmpty_eq_false_iff]
          intro e
          have := Lib.size_eq x
          rw [e] at this
          exact hx0 this
        have hn1 := (nameI_size x).1
        have hn2 := (nameI_size x).2
        obtain ⟨nm, hnm⟩ : ∃ nm, nameI x = nm := ⟨_, rfl⟩
        obtain ⟨rs, hrs⟩ : ∃ rs, restI x = rs := ⟨_, rfl⟩
        have HC := Lib.hid (fun W hL => cut_c x W hx3 hL)
        have HT := Lib.hid (fun W => trim_c x W hx3)
        rw [hnm, hrs] at HC
        rw [hnm] at hn1
        rw [hrs] at hn2
        obtain ⟨t, ht⟩ : ∃ t, trimI x = t := ⟨_, rfl⟩
        rw [ht] at HC HT
        clear ht
        have HNM := Lib.hid hnm
        have HRS := Lib.hid hrs
        have HX0 := Lib.hid hx0
        clear hx0 hnm hrs
        go_wp2_with fail
        refine (HT.out _).mono ?_; rintro e w2 ⟨rfl, rfl⟩
        go_wp2_with fail
        refine (HC.out _ HLW.out).mono ?_; rintro e w2 ⟨bb, rfl, hb⟩
        have HB2 := Lib.hid (bel_then HB.out hb)
        have HO2 := Lib.hid (own_below HO.out hb)
        clear hb HO
        go_wp2_with fail
        refine (readNumbers_c rs _ (by omega) (HL.out.below (bel_then HB1.out HB2.out))).mono ?_
        cases hq : rnsV (wordsI rs) with
        | none =>
          rintro e w3 ⟨v3, rfl, ho3, hb⟩
          have HB3 := Lib.hid (bel_then (bel_then HB1.out HB2.out) hb)
          have HZ : Hid (r = none) := Lib.hid (by rw [HQ.out]; exact fold_stop _ apStepI_no _ HX.out (by rw [HF.out, apStepI_fail HX0.out (rowI_none (by rw [HRS.out]; exact hq))]))
          have HE : Hid (parI s = ([], false)) := Lib.hid (by rw [HV.out, HZ.out, endV_none])
          clear hq ho3 hb
          go_wp2
          go_ret2
          exact flR_no HE.out HB3.out
        | some q =>
          rintro e w3 ⟨v3, rfl, ho3, hb⟩
          rw [Option.getD_some] at ho3
          have HO3 := Lib.hid (own_below HO2.out hb)
          have HB3 := Lib.hid (bel_then HB2.out hb)
          have hb3 := HB3.out.size
          have HLT := Lib.hid (fun g e => (HO2.out.lt g e))
          by_cases hq4 : q.length = 4
          · obtain ⟨y1, y2, y3, y4, rfl⟩ := four_of hq4
            have ho4 : w3.ownsRow w2.heap.size 3 1 v3 4 (ints [y1, y2, y3, y4]) := ho3
            obtain ⟨g, cap, rfl, hg1, hg2, hg3, hg4⟩ := own_shape ho4 (by omega)
            have d0 : w3.cell? ⟨g, 0, none⟩ = some (.int .i64 y1) := ho4.cellAt 0 (by omega)
            have d1 : w3.cell? ⟨g, 1, none⟩ = some (.int .i64 y2) := ho4.cellAt 1 (by omega)
            have d2 : w3.cell? ⟨g, 2, none⟩ = some (.int .i64 y3) := ho4.cellAt 2 (by omega)
            have d3 : w3.cell? ⟨g, 3, none⟩ = some (.int .i64 y4) := ho4.cellAt 3 (by omega)
            have HF2 : Hid ((p.take (k + 1)).foldl apStepI (some []) = some (l ++ [⟨nm, y1, y2, y3, y4⟩])) := Lib.hid (by rw [fold_to _ _ HX.out, HF.out, apStepI_add HX0.out (rowI_four (by rw [HRS.out]; exact hq)), HNM.out])
            have HNN : Hid (∀ a ∈ l ++ [(⟨nm, y1, y2, y3, y4⟩ : Ap)], a.nm.size ≤ 1000) := Lib.hid (by
              intro a ha
              rw [List.mem_append, List.mem_singleton] at ha
              rcases ha with ha | rfl
              · exact HN.out a ha
              · show nm.size ≤ 1000
                omega)
            clear hq hq4 ho3 ho4 hb HO2
            go_wp2_with fail
            go_region_held3 (fun W' => W'.cell? ⟨g, 0, none⟩ = some (.int .i64 y1) ∧ W'.cell? ⟨g, 1, none⟩ = some (.int .i64 y2) ∧ W'.cell? ⟨g, 2, none⟩ = some (.int .i64 y3) ∧ W'.cell? ⟨g, 3, none⟩ = some (.int .i64 y4)) (first | go_keep | (go_split_ands; refine ⟨?_, ?_, ?_, ?_⟩ <;> (rw [gro_cellr hgrow7 (by simp; omega) (fun q e => by have := (HLT.out q e).2; omega)]; first | assumption | (simp only [go_sem]; assumption) | (rw [World.cell?_alloc_lt _ _ _ (by simp; omega)]; assumption)))) (first | (refine step_app_rd _ rfl (.tmp 40) (.tmp 55) 24 rfl w1.heap.size 35 i0 _ 5 48 Tryz.underlying24 hi hz0 hz1 hz2 rfl (by decide) _ l.length (l.flatMap Ap.cells) rfl ((own_dr HO3.out).alloc _) _ 1 [.string nm, .int .i64 y1, .int .i64 y2, .int .i64 y3, .int .i64 y4] rfl (rd_new _ rfl (Nat.le_refl _) (by rw [maxLen_eq]; omega)) rfl (by intro u hu; simp at hu; rcases hu with rfl | rfl | rfl | rfl | rfl <;> rfl) (by rw [maxLen_eq]; omega) (by omega) (by simp; omega) ?_; intro v7 w7 hown7 hgrow7 _) | fail)
            all_goals
              go_wp2
              refine ⟨⟨k + 1, l ++ [⟨nm, y1, y2, y3, y4⟩], by omega, by simp; omega, by go_num, HNN, HF2, Lib.hid ?_, Lib.hid (bel_grown (bel_al (bel_dr HB3.out) _) hgrow7 (fun q e => (HO3.out.lt q e).1))⟩, by simp [intOf]; omega⟩
              rw [flat_snoc_ap, List.length_append]; exact hown7
          · have HB4 := Lib.hid (bel_then (bel_then HB1.out HB2.out) hb)
            have HZ : Hid (r = none) := Lib.hid (by rw [HQ.out]; exact fold_stop _ apStepI_no _ HX.out (by rw [HF.out, apStepI_fail HX0.out (rowI_len (by rw [HRS.out]; exact hq) hq4)]))
            have HE : Hid (parI s = ([], false)) := Lib.hid (by rw [HV.out, HZ.out, endV_none])
            obtain ⟨A3, c3, rfl, -, -, -⟩ := own_rd ho3
            have q4 : ((q.length : Int) != 4) = true := by simp; omega
            clear hq ho3 hb hq4
            go_wp2
            go_ret2
            exact flR_no HE.out HB4.out
    · obtain rfl : k = p.length := by omega
      have HZ : Hid (r = some l) := Lib.hid (by rw [HQ.out, ← HF.out, List.take_length])
      have HRD := Lib.hid (own_rd HO.out)
      go_wp2_with fail
      refine (isFleet_c _ l _ (fun a ha => by have := HN.out a ha; omega) HRD.out).mono ?_; rintro e w2 ⟨rfl, hb⟩
      have HB2 := Lib.hid (bel_then (bel_then HB1.out HB.out) hb)
      have HRD2 := Lib.hid (rd_below HRD.out hb)
      clear hb
      cases hg : goodFl l with
      | false =>
        have HE : Hid (parI s = ([], false)) := Lib.hid (by rw [HV.out, HZ.out, endV_bad hg])
        clear hg
        go_wp2
        go_ret2
        exact flR_no HE.out HB2.out
      | true =>
        have HG := Lib.hid hg
        have h12 := (goodFl_true hg).1
        have HA := Lib.hid (goodFl_true hg).2
        clear hg
        go_wp2_with fail
        refine (fleetText_c _ l _ h12 HA.out HRD2.out).mono ?_
        obtain ⟨T, hT⟩ : ∃ T, flT l l.length = T := ⟨_, rfl⟩
        rw [hT]
        rintro e w3 ⟨rfl, hb⟩
        have HB3 := Lib.hid (bel_then HB2.out hb)
        have HRD3 := Lib.hid (rd_below HRD2.out hb)
        clear hb
        by_cases hTs : T = s
        · have HE : Hid (parI s = (l, true)) := Lib.hid (by rw [HV.out, HZ.out, endV_yes HG.out (hT.trans hTs)])
          have hbl : (T.toList == s.toList) = true := by rw [bl_decide]; exact decide_eq_true hTs
          clear hT hTs
          go_wp2
          go_ret2
          rw [HE.out]
          exact ⟨_, rfl, HRD3.out, HB3.out⟩
        · have HE : Hid (parI s = ([], false)) := Lib.hid (by rw [HV.out, HZ.out, endV_ne (fun e => hTs (hT.symm.trans e))])
          have hbl : (T.toList == s.toList) = false := by rw [bl_decide]; exact decide_eq_false hTs
          clear hT hTs
          go_wp2
          go_ret2
          exact flR_no HE.out HB3.out
end Go.Proofs.YtgcdgcidjjdhmaaGreatDoor

namespace Go.Proofs.YtgcdgcidjjdhmaaGreatDoor
set_option linter.unusedVariables false
set_option linter.unusedSimpArgs false
open Go.RowKit

theorem cutsB_len (c : UInt8) (s : List UInt8) : 1 ≤ (cutsB c s).length := by unfold cutsB; simp
theorem rowS_len {x : ByteArray} (h : (cutsB 47 x.data.toList).length ≠ 5) : rowS x = none := by
  unfold rowS
  match cutsB 47 x.data.toList, h with
  | [], _ => rfl
  | [_], _ => rfl
  | [_, _], _ => rfl
  | [_, _, _], _ => rfl
  | [_, _, _, _], _ => rfl
  | [_, _, _, _, _], h => exact absurd rfl h
  | _ :: _ :: _ :: _ :: _ :: _ :: _, _ => rfl
theorem rowS_five {x n a b c d : ByteArray} (h : cutsB 47 x.data.toList = [n, a, b, c, d]) : rowS x = some ⟨n, readL a.data.toList, readL b.data.toList, readL c.data.toList, readL d.data.toList⟩ := by unfold rowS; rw [h]
theorem five_of {q : List ByteArray} (h : q.length = 5) : ∃ n a b c d, q = [n, a, b, c, d] := by
  match q, h with
  | [n, a, b, c, d], _ => exact ⟨n, a, b, c, d, rfl⟩
theorem apStepS_no (x : ByteArray) : apStep rowS none x = none := rfl
theorem apStepS_fail {l : List Ap} {x : ByteArray} (hr : rowS x = none) : apStep rowS (some l) x = none := by unfold apStep; rw [hr]; rfl
theorem apStepS_add {l : List Ap} {x : ByteArray} {a : Ap} (hr : rowS x = some a) : apStep rowS (some l) x = some (l ++ [a]) := by unfold apStep; rw [hr]; rfl
set_option maxRecDepth 100000 in
set_option maxHeartbeats 4000000 in
theorem parseFleetS_c (s : ByteArray) (w : World) (hs : s.size ≤ 1000) :
    Calls Tryz.prog 24 #[.string s] w (FlR (parS s) w) := by
  have hpz : ∀ x ∈ cutsB 59 s.data.toList, x.size ≤ 1000 := fun x hx => by
    have h1 := cutsB_size 59 s.data.toList x hx
    have h2 := Lib.size_eq s
    omega
  have HS := Lib.hid (l1Split_c s 59 59 (by decide) w hs)
  have hp1 := cutsB_len 59 s.data.toList
  have HV : Hid (parS s = if 13 < (cutsB 59 s.data.toList).length then ([], false) else endV s ((cutsB 59 s.data.toList).dropLast.foldl (apStep rowS) (some []))) := Lib.hid rfl
  obtain ⟨p, hp⟩ : ∃ p, cutsB 59 s.data.toList = p := ⟨_, rfl⟩
  rw [hp] at HS HV hpz hp1
  clear hp
  obtain ⟨i0, hi, hz0, hz1, hz2⟩ := info_parts Tryz.infoAp
  by_cases h13 : 13 < p.length
  · have HE : Hid (parS s = ([], false)) := Lib.hid (by rw [HV.out, if_pos h13])
    go_enter Tryz.func24, Tryz.ntmps24
    go_wp2_with fail
    refine HS.out.mono ?_; rintro e w1 ⟨v1, rfl, ho1, hb1⟩
    obtain ⟨A1, c1, rfl, -, -, -⟩ := own_rd ho1
    have HB1 := Lib.hid hb1
    have h13i : (13 : Int) < (p.length : Int) := by omega
    clear ho1 hb1
    go_wp2
    go_ret2
    exact flR_no HE.out HB1.out
  · obtain ⟨n, hn⟩ : ∃ n, p.length = n + 1 := ⟨p.length - 1, by omega⟩
    have hn12 : n ≤ 12 := by omega
    obtain ⟨D, hD⟩ : ∃ D, p.dropLast = D := ⟨_, rfl⟩
    have hDl : D.length = n := by rw [← hD, List.length_dropLast]; omega
    obtain ⟨r, hr⟩ : ∃ r, D.foldl (apStep rowS) (some []) = r := ⟨_, rfl⟩
    have HV2 : Hid (parS s = endV s r) := Lib.hid (by rw [HV.out, if_neg h13, hD, hr])
    have HQ := Lib.hid hr.symm
    have HDP : Hid (∀ k, k < n → D[k]? = p[k]?) := Lib.hid (fun k hk => by
      rw [← hD, List.getElem?_dropLast, if_pos (by omega)])
    have HDL := Lib.hid hDl
    have HN := Lib.hid hn
    have HPZ := Lib.hid hpz
    have HSN : Hid (Calls Tryz.prog 54 #[.string s, .int .u8 59] w fun e w' => ∃ v, e = .returned v ∧ w'.ownsRow w.heap.size 9 1 v (n + 1) (strs p) ∧ Below w.heap.size w w') := Lib.hid (HS.out.mono fun e w' h => by
      obtain ⟨v, h1, h2, h3⟩ := h
      rw [HN.out] at h2
      exact ⟨v, h1, h2, h3⟩)
    clear hD hDl hr hn h13 hpz hp1
    go_enter Tryz.func24, Tryz.ntmps24
    go_wp2_with fail
    refine HSN.out.mono ?_; rintro e w1 ⟨v1, rfl, ho1, hb1⟩
    obtain ⟨g1, c1, rfl, hg1, hg2, hc1, hc2⟩ := own_shape ho1 (by omega)
    have HO1 := Lib.hid ho1
    have HB1 := Lib.hid hb1
    have n1 : ¬ ((13 : Int) < ((n + 1 : Nat) : Int)) := by omega
    have n2 : ((n + 1 : Nat) : Int) - 1 = (n : Int) := by omega
    have n3 : (n : Int) ≤ (c1 : Int) := by omega
    have n4 : (0 : Int) ≤ (n : Int) := by omega
    clear ho1 hb1
    go_wp2_with fail
    go_loopw [5, 20] (fun vo vi wr => ∃ (k : Nat) (l : List Ap), k ≤ n ∧ l.length ≤ k ∧ vi = .int .i64 k ∧ Hid (∀ a ∈ l, a.nm.size ≤ 1000) ∧ Hid ((D.take k).foldl (apStep rowS) (some []) = some l) ∧ Hid (wr.ownsRow w1.heap.size 35 5 vo l.length (l.flatMap Ap.cells)) ∧ Hid (Below w1.heap.size w1 wr)) (fun _ vi _ => n - (intOf vi).toNat)
    case atStart => exact ⟨0, [], Nat.zero_le _, Nat.le_refl _, rfl, Lib.hid (by simp), Lib.hid rfl, Lib.hid (World.ownsRow_nil _ _ _ _), Lib.hid (Below.refl _ _)⟩
    case round =>
      obtain ⟨k, l, hk, hlk, rfl, HNZ, HF, HO, HB⟩ := hrel
      obtain ⟨wA, rfl⟩ : ∃ wA : World, wA = wr := ⟨_, rfl⟩
      have hbw := HB.out.size
      have hbw1 := HB1.out.size
      by_cases hlt : k < n
      · obtain ⟨x, hx⟩ : ∃ x, p[k]? = some x := ⟨_, List.getElem?_eq_getElem (by have := HN.out; omega)⟩
        have hxD := (HDP.out k hlt).trans hx
        have c0 : wA.cell? ⟨g1, k, none⟩ = some (.string x) := by
          have h := HO1.out.cellAt k (by omega)
          rw [strs_get hx] at h
          rw [HB.out.cell (by exact hg2)]
          exact h
        have hx3 := HPZ.out x (List.mem_of_getElem? hx)
        have HX := Lib.hid hxD
        have i0' : (0 : Int) ≤ (k : Int) := by omega
        have i1 : (k : Int) < (n : Int) := by omega
        have hqz : ∀ y ∈ cutsB 47 x.data.toList, y.size ≤ 1000 := fun y hy => by
          have h1 := cutsB_size 47 x.data.toList y hy
          have h2 := Lib.size_eq x
          omega
        have HSX := Lib.hid (fun W => l1Split_c x 47 47 (by decide) W hx3)
        have HQZ := Lib.hid hqz
        clear hx hxD hqz
        obtain ⟨q, hq⟩ : ∃ q, cutsB 47 x.data.toList = q := ⟨_, rfl⟩
        rw [hq] at HSX HQZ
        have HQE := Lib.hid hq
        clear hq
        go_wp2_with fail
        refine (HSX.out _).mono ?_; rintro e w2 ⟨v2, rfl, ho2, hb⟩
        have HO2 := Lib.hid (own_below HO.out hb)
        have HB2 := Lib.hid (bel_then HB.out hb)
        have hb2 := HB2.out.size
        have HLT := Lib.hid (fun g e => (HO.out.lt g e))
        by_cases hq5 : q.length = 5
        · obtain ⟨y0, y1, y2, y3, y4, rfl⟩ := five_of hq5
          have ho4 : w2.ownsRow wA.heap.size 9 1 v2 5 (strs [y0, y1, y2, y3, y4]) := ho2
          obtain ⟨g, cap, rfl, hgg1, hgg2, hgg3, hgg4⟩ := own_shape ho4 (by omega)
          have d0 : w2.cell? ⟨g, 0, none⟩ = some (.string y0) := ho4.cellAt 0 (by omega)
          have d1 : w2.cell? ⟨g, 1, none⟩ = some (.string y1) := ho4.cellAt 1 (by omega)
          have d2 : w2.cell? ⟨g, 2, none⟩ = some (.string y2) := ho4.cellAt 2 (by omega)
          have d3 : w2.cell? ⟨g, 3, none⟩ = some (.string y3) := ho4.cellAt 3 (by omega)
          have d4 : w2.cell? ⟨g, 4, none⟩ = some (.string y4) := ho4.cellAt 4 (by omega)
          have z0 := HQZ.out y0 (by simp)
          have z1 := HQZ.out y1 (by simp)
          have z2 := HQZ.out y2 (by simp)
          have z3 := HQZ.out y3 (by simp)
          have z4 := HQZ.out y4 (by simp)
          have HF2 : Hid ((D.take (k + 1)).foldl (apStep rowS) (some []) = some (l ++ [⟨y0, readL y1.data.toList, readL y2.data.toList, readL y3.data.toList, readL y4.data.toList⟩])) := Lib.hid (by rw [fold_to _ _ HX.out, HF.out, apStepS_add (rowS_five HQE.out)])
          have HNN : Hid (∀ a ∈ l ++ [(⟨y0, readL y1.data.toList, readL y2.data.toList, readL y3.data.toList, readL y4.data.toList⟩ : Ap)], a.nm.size ≤ 1000) := Lib.hid (by
            intro a ha
            rw [List.mem_append, List.mem_singleton] at ha
            rcases ha with ha | rfl
            · exact HNZ.out a ha
            · exact z0)
          clear hq5 ho2 ho4 hb
          go_wp2_with fail
          go_region_held3 (fun W' => W'.cell? ⟨g, 0, none⟩ = some (.string y0) ∧ W'.cell? ⟨g, 1, none⟩ = some (.string y1) ∧ W'.cell? ⟨g, 2, none⟩ = some (.string y2) ∧ W'.cell? ⟨g, 3, none⟩ = some (.string y3) ∧ W'.cell? ⟨g, 4, none⟩ = some (.string y4)) (first | go_keep | (go_split_ands; refine ⟨?_, ?_, ?_, ?_, ?_⟩ <;> (rw [gro_cellr hgrow7 (by simp; omega) (fun q e => by have := (HLT.out q e).2; omega)]; first | assumption | (simp only [go_sem]; assumption) | (rw [World.cell?_alloc_lt _ _ _ (by simp; omega)]; assumption)))) (first | (go_at_call 55; refine (l1Read_c _ _ (by assumption)).mono ?_; rintro e wq ⟨rfl, rfl⟩) | (refine step_app_rd _ rfl (.tmp 29) (.tmp 50) 24 rfl w1.heap.size 35 i0 _ 5 48 Tryz.underlying24 hi hz0 hz1 hz2 rfl (by decide) _ l.length (l.flatMap Ap.cells) rfl ((own_dr HO2.out).alloc _) _ 1 [.string y0, .int .i64 (readL y1.data.toList), .int .i64 (readL y2.data.toList), .int .i64 (readL y3.data.toList), .int .i64 (readL y4.data.toList)] rfl (rd_new _ rfl (Nat.le_refl _) (by rw [maxLen_eq]; omega)) rfl (by intro u hu; simp at hu; rcases hu with rfl | rfl | rfl | rfl | rfl <;> rfl) (by rw [maxLen_eq]; omega) (by omega) (by simp; omega) ?_; intro v7 w7 hown7 hgrow7 _) | fail)
          all_goals
            go_wp2
            refine ⟨⟨k + 1, l ++ [⟨y0, readL y1.data.toList, readL y2.data.toList, readL y3.data.toList, readL y4.data.toList⟩], by omega, by simp; omega, by go_num, HNN, HF2, Lib.hid ?_, Lib.hid (bel_grown (bel_al (bel_dr HB2.out) _) hgrow7 (fun q e => (HO2.out.lt q e).1))⟩, by simp [intOf]; omega⟩
            rw [flat_snoc_ap, List.length_append]; exact hown7
        · have HB4 := Lib.hid (bel_then (bel_then HB1.out HB.out) hb)
          have HZ : Hid (r = none) := Lib.hid (by rw [HQ.out]; exact fold_stop _ apStepS_no _ HX.out (by rw [HF.out, apStepS_fail (rowS_len (by rw [HQE.out]; exact hq5))]))
          have HE : Hid (parS s = ([], false)) := Lib.hid (by rw [HV2.out, HZ.out, endV_none])
          obtain ⟨A3, c3, rfl, -, -, -⟩ := own_rd ho2
          have q5 : ((q.length : Int) != 5) = true := by simp; omega
          clear ho2 hb hq5
          go_wp2
          go_ret2
          exact flR_no HE.out HB4.out
      · obtain rfl : k = n := by omega
        have HZ : Hid (r = some l) := Lib.hid (by rw [HQ.out, ← HF.out, List.take_of_length_le (by have := HDL.out; omega)])
        have HRD := Lib.hid (own_rd HO.out)
        go_wp2_with fail
        refine (apFleet_c _ l _ (fun a ha => by have := HNZ.out a ha; omega) HRD.out).mono ?_; rintro e w2 ⟨rfl, hb⟩
        have HB2 := Lib.hid (bel_then (bel_then HB1.out HB.out) hb)
        have HRD2 := Lib.hid (rd_below HRD.out hb)
        clear hb
        cases hg : goodFl l with
        | false =>
          have HE : Hid (parS s = ([], false)) := Lib.hid (by rw [HV2.out, HZ.out, endV_bad hg])
          clear hg
          go_wp2
          go_ret2
          exact flR_no HE.out HB2.out
        | true =>
          have HG := Lib.hid hg
          have h12 := (goodFl_true hg).1
          have HA := Lib.hid (goodFl_true hg).2
          clear hg
          go_wp2_with fail
          refine (apText_c _ l _ h12 HA.out HRD2.out).mono ?_
          obtain ⟨T, hT⟩ : ∃ T, flT l l.length = T := ⟨_, rfl⟩
          rw [hT]
          rintro e w3 ⟨rfl, hb⟩
          have HB3 := Lib.hid (bel_then HB2.out hb)
          have HRD3 := Lib.hid (rd_below HRD2.out hb)
          clear hb
          by_cases hTs : T = s
          · have HE : Hid (parS s = (l, true)) := Lib.hid (by rw [HV2.out, HZ.out, endV_yes HG.out (hT.trans hTs)])
            have hbl : (T.toList == s.toList) = true := by rw [bl_decide]; exact decide_eq_true hTs
            clear hT hTs
            go_wp2
            go_ret2
            rw [HE.out]
            exact ⟨_, rfl, HRD3.out, HB3.out⟩
          · have HE : Hid (parS s = ([], false)) := Lib.hid (by rw [HV2.out, HZ.out, endV_ne (fun e => hTs (hT.symm.trans e))])
            have hbl : (T.toList == s.toList) = false := by rw [bl_decide]; exact decide_eq_false hTs
            clear hT hTs
            go_wp2
            go_ret2
            exact flR_no HE.out HB3.out
end Go.Proofs.YtgcdgcidjjdhmaaGreatDoor
