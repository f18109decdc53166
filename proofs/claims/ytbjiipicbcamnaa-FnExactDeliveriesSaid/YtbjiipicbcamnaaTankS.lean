/-
  Contracts over lists of tankers: their copy, their comparison, their sizes.
-/
import Derived.Test.YtbjiipicbcamnaaTank
import Derived.Deep.RegionHeld3
import Derived.Deep.RegionWith
import Derived.BigQuiet
namespace Go.Proofs.Ytbjiipicbcamnaa
open Go.RowKit

set_option maxRecDepth 100000 in
set_option maxHeartbeats 400000 in
theorem szTankerS_big (v : Value) (n : Nat) (xs : List Value) (left : Int) (w : World) (h0 : 0 ≤ left) (h1 : left ≤ 1048576) (hr : Rd w v n xs) (hn : left < n) :
    Calls Try.prog 5 #[v, .int .i64 left] w fun en w' => en = .returned (.int .i64 (-1)) ∧ w = w' := by
  obtain ⟨A, c, rfl, hc, hm, hr⟩ := hr
  rw [maxLen_eq] at hm
  go_enter Try.func5, Try.ntmps5
  go_wp2
  go_ret
  exact ⟨rfl, rfl⟩
set_option maxRecDepth 100000 in
set_option maxHeartbeats 400000 in
theorem szTankerS_fits (v : Value) (n : Nat) (xs : List Value) (left : Int) (w : World) (h1 : left ≤ 1048576) (hr : Rd w v n xs) (hn : n ≤ left) :
    Calls Try.prog 5 #[v, .int .i64 left] w fun en w' => en = .returned (.int .i64 (left - n)) ∧ w = w' := by
  obtain ⟨A, c, rfl, hc, hm, hr⟩ := hr
  rw [maxLen_eq] at hm
  go_enter Try.func5, Try.ntmps5
  go_wp2
  go_ret
  exact ⟨rfl, rfl⟩

def Tk.zs : List Value := [.int .i64 0, .int .i64 0, .int .i64 0, .int .i64 0]
theorem Try.infoTk : (Try.prog.info? 42).map (fun i => (i.zero, i.size, i.bytes)) = some (some (.agg #[.int .i64 0, .int .i64 0, .int .i64 0, .int .i64 0]), 4, 32) := by kernel_rfl

set_option maxRecDepth 100000 in
set_option maxHeartbeats 400000 in
theorem toTankerS_c (v : Value) (l : List Tk) (w : World) (hl : l.length ≤ 1048576) (hr : Rd w v l.length (l.flatMap Tk.cells)) :
    Calls Try.prog 7 #[v] w fun en w' => ∃ v', en = .returned v' ∧ w'.ownsRow w.heap.size 42 4 v' l.length (l.flatMap Tk.cells) ∧ Below w.heap.size w w' := by
  obtain ⟨A, c, rfl, hc, hm, hr⟩ := hr
  rw [maxLen_eq] at hm
  obtain ⟨i0, hi, hz0, hz1, hz2⟩ := info_parts Try.infoTk
  go_enter Try.func7, Try.ntmps7
  go_wp2_with (at_make; refine wpList_make_full _ rfl _ _ 27 rfl w.heap.size 42 i0 _ 4 Try.underlying27 hi hz0 hz1 _ _ _ _ l.length rfl rfl rfl rfl (by rw [hz2]; omega) (by rw [maxLen_eq]; omega) (Nat.le_refl _) ?_; intro w1 hown1 hg1)
  have hb1 : Below w.heap.size w w1 := (Below.refl _ _).grown hg1 (Nat.le_refl _) (fun k h => by cases h)
  clear hg1
  go_loopw [4] (fun i wr => ∃ k : Nat, k ≤ l.length ∧ i = .int .i64 k ∧ wr.ownsRow w.heap.size 42 4 (.slice (some ⟨w.heap.size, 0, none⟩) l.length l.length) l.length (part Tk.cells Tk.zs l k) ∧ Below w.heap.size w wr) (fun i _ => l.length - (intOf i).toNat)
  case atStart => exact ⟨0, Nat.zero_le _, rfl, by rw [part_zero, show Tk.zs = (#[.int .i64 0, .int .i64 0, .int .i64 0, .int .i64 0] : Array Value).toList from rfl, ← made_eq (sz := 4) rfl (by omega)]; exact hown1, hb1⟩
  case round =>
    obtain ⟨k, hk, rfl, hown, hb⟩ := hrel
    by_cases hlt : k < l.length
    · obtain ⟨b, off, rfl, hbl, hcell⟩ := hr (by omega)
      have hx : l[k]? = some l[k] := by simp [hlt]
      generalize l[k] = t at hx
      obtain ⟨c0, c1, c2, c3⟩ := tk_at hcell hb hbl hx
      have HX := Lib.hid hx
      clear hx hown1 hb1
      have hg : ∀ j, j < 4 → (part Tk.cells Tk.zs l k)[k * 4 + j]? = some (.int .i64 0) := fun j hj => by
        rw [part_get Tk.cells_len rfl hlt hj]
        match j, hj with | 0, _ => rfl | 1, _ => rfl | 2, _ => rfl | 3, _ => rfl
      go_wp2_with (go_at_call 33; refine (toTanker_c _ _ _ _ _).mono ?_; rintro e w' ⟨rfl, hb1⟩; have hown' := own_below hown hb1; have d0 := (hown'.cellAt (k * 4) (by omega)).trans (hg 0 (by omega)); have d1 := (hown'.cellAt (k * 4 + 1) (by omega)).trans (hg 1 (by omega)); have d2 := (hown'.cellAt (k * 4 + 2) (by omega)).trans (hg 2 (by omega)); have d3 := (hown'.cellAt (k * 4 + 3) (by omega)).trans (hg 3 (by omega)); have f0 := hown'.frozenAt (k * 4); have f1 := hown'.frozenAt (k * 4 + 1); have f2 := hown'.frozenAt (k * 4 + 2); have f3 := hown'.frozenAt (k * 4 + 3))
      refine ⟨⟨k + 1, by omega, by go_num, ?_, bel_put (Nat.le_refl _) (Tk.cells t) w' (k * 4) (bel_then hb hb1)⟩, by simp [intOf]; omega⟩
      have hp := own_put (Tk.cells t) w' _ (k * 4) hown'
      rw [part_put Tk.cells_len rfl HX.out] at hp
      exact hp
    · go_wp2
      go_ret
      obtain rfl : k = l.length := by omega
      exact ⟨_, rfl, by rw [part_full] at hown; exact hown, hb⟩

set_option maxRecDepth 100000 in
set_option maxHeartbeats 400000 in
theorem eqTankerS_c (v v' : Value) (l l' : List Tk) (w : World) (hr : Rd w v l.length (l.flatMap Tk.cells)) (hr' : Rd w v' l'.length (l'.flatMap Tk.cells)) :
    Calls Try.prog 10 #[v, v'] w fun en w' => en = .returned (.bool (decide (l = l'))) ∧ Below w.heap.size w w' := by
  obtain ⟨A, c, rfl, hc, hm, hr⟩ := hr
  obtain ⟨A', c', rfl, hc', hm', hr'⟩ := hr'
  rw [maxLen_eq] at hm hm'
  by_cases hlen : l.length = l'.length
  · have hlb : ((l.length : Int) != l'.length) = false := by rw [hlen]; simp
    have HL := Lib.hid hlen
    clear hlen
    go_enter Try.func10, Try.ntmps10
    go_wp2
    go_loopw [5] (fun i wr => ∃ k : Nat, k ≤ l.length ∧ i = .int .i64 k ∧ l.take k = l'.take k ∧ Below w.heap.size w wr) (fun i _ => l.length - (intOf i).toNat)
    case atStart => exact ⟨0, Nat.zero_le _, rfl, rfl, Below.refl _ _⟩
    case round =>
      obtain ⟨k, hk, rfl, hpre, hb⟩ := hrel
      have HP := Lib.hid hpre
      clear hpre
      by_cases hlt : k < l.length
      · have hlt' : k < l'.length := by have := HL.out; omega
        obtain ⟨b, off, rfl, hbl, hcell⟩ := hr (by omega)
        obtain ⟨b', off', rfl, hbl', hcell'⟩ := hr' (by omega)
        have hx : l[k]? = some l[k] := by simp [hlt]
        generalize l[k] = t at hx
        have hx' : l'[k]? = some l'[k] := by simp [hlt']
        generalize l'[k] = t' at hx'
        obtain ⟨c0, c1, c2, c3⟩ := tk_at hcell hb hbl hx
        obtain ⟨d0, d1, d2, d3⟩ := tk_at hcell' hb hbl' hx'
        have HX := Lib.hid hx
        have HX' := Lib.hid hx'
        clear hx hx'
        have hs := hb.size
        go_wp2_with fail
        go_region_held3 (fun w' => w'.cell? ⟨b, off + k * 4, none⟩ = some (.int .i64 t.l) ∧ w'.cell? ⟨b, off + k * 4 + 1, none⟩ = some (.int .i64 t.f) ∧ w'.cell? ⟨b, off + k * 4 + 2, none⟩ = some (.int .i64 t.d) ∧ w'.cell? ⟨b, off + k * 4 + 3, none⟩ = some (.int .i64 t.e) ∧ w'.cell? ⟨b', off' + k * 4, none⟩ = some (.int .i64 t'.l) ∧ w'.cell? ⟨b', off' + k * 4 + 1, none⟩ = some (.int .i64 t'.f) ∧ w'.cell? ⟨b', off' + k * 4 + 2, none⟩ = some (.int .i64 t'.d) ∧ w'.cell? ⟨b', off' + k * 4 + 3, none⟩ = some (.int .i64 t'.e)) (first | go_keep | (go_split_ands; refine ⟨?_, ?_, ?_, ?_, ?_, ?_, ?_, ?_⟩ <;> (rw [hb1.cell (by simp; omega)]; assumption)))
          (first | (go_at_call 40; refine (eqTanker_c _ _ _ _ _ _ _ _ _).mono ?_; rintro e w' ⟨rfl, hb1⟩))
        go_wp2
        · go_ret
          have h : tkEq t t' = false := by simp_all
          refine ⟨?_, bel_then (bel_dr hb) hb1⟩
          have hne : l ≠ l' := fun e => by
            have h1 := HX.out; have h2 := HX'.out; rw [e, h2] at h1
            have h3 : t' = t := Option.some.inj h1
            subst h3; simp [tkEq] at h
          rw [decide_eq_false hne]; rfl
        · have h : tkEq t t' = true := by simp_all
          refine ⟨⟨k + 1, by omega, by go_num, ?_, bel_then (bel_dr hb) hb1⟩, by simp [intOf]; omega⟩
          have h3 : t = t' := by simpa [tkEq] using h
          rw [take_succ_of HX.out, take_succ_of HX'.out, HP.out, h3]
      · go_wp2
        go_ret
        refine ⟨?_, hb⟩
        have e := HP.out
        rw [List.take_of_length_le (by omega), List.take_of_length_le (by have := HL.out; omega)] at e
        rw [e]; simp
  · have hlb : ((l.length : Int) != l'.length) = true := by simp; omega
    have hne : l ≠ l' := fun e => hlen (by rw [e])
    go_enter Try.func10, Try.ntmps10
    go_wp2
    go_ret
    exact ⟨by rw [decide_eq_false hne]; rfl, Below.refl _ _⟩

end Go.Proofs.Ytbjiipicbcamnaa
