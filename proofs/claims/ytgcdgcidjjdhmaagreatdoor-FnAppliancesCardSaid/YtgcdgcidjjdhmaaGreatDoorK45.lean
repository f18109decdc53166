/-
  The draw of a text of a fleet, mostly a right one (printed by gen_drawpg.py). (joined by pack.py: DrawPg)
-/
import Derived.Test.YtgcdgcidjjdhmaaGreatDoorK44
import Derived.Test.YtgcdgcidjjdhmaaGreatDoorK35
namespace Go.Proofs.YtgcdgcidjjdhmaaGreatDoor
set_option linter.unusedVariables false
set_option linter.unusedSimpArgs false
open Go.RowKit

theorem flT_small {T : List Ap} (h : goodFl T = true) : (flT T T.length).size ≤ 228 := by
  have h1 := goodFl_true h
  have h2 := flT_size (l := T) (fun a ha => (goodAp_true (h1.2 a ha)).1) T.length
  have := h1.1
  omega

set_option maxRecDepth 100000 in
set_option maxHeartbeats 4000000 in
theorem drawParseFleet_c (v : Value) (l : List Int) (hn : l.length ≤ 9223372036854775807) (hl : BytesOk l) (w : World) (hr : Rd w v l.length (bys l)) :
    Calls Tryz.prog 22 #[v] w fun e w' => (∃ s : ByteArray, e = .returned (.string s) ∧ s.size ≤ 300) ∧ Below w.heap.size w w' := by
  have HB9 := Lib.hid hr
  have HL := Lib.hid hl
  obtain ⟨A0, c0, rfl, _⟩ := hr
  clear hl
  go_enter Tryz.func22, Tryz.ntmps22
  go_upto_region 2 with fail
  generalize hW : World.alloc w _ = w0
  have hc := cur_new w _ l HB9.out hn w0 (by subst hW; simp [go_sem]) (by subst hW; simp [go_sem]) (by subst hW; simp [go_sem]) (by subst hW; simp [go_sem]) (by subst hW; simp [go_sem]) (by subst hW; exact bel_al (Below.refl _ _) _)
  have hb0 : Below w.heap.size w w0 := by subst hW; exact bel_al (Below.refl _ _) _
  obtain ⟨B, hBd⟩ : ∃ B, w.heap.size = B := ⟨_, rfl⟩
  rw [hBd] at hc ⊢
  have HB0 := Lib.hid hb0
  have HBD := Lib.hid hBd
  obtain ⟨a, ha0, ha1⟩ : ∃ a : Nat, a = 0 ∧ a ≤ 0 := ⟨0, rfl, Nat.le_refl _⟩
  rw [← ha0] at hc
  have HD := Lib.hid (Drew.refl hc 0)
  have hBb : B < w0.heap.size := hc.lt
  clear hW hb0 hBd hc ha0
  go_wp2_with fail
  refine (fleet_c B l HL.out (a + 0) (by omega) _ HD.out.1 4 (by omega)).mono ?_; rintro e w9 ⟨v9, T, rfl, ho, hT, hTs, hd⟩
  obtain ⟨A9, c9, rfl, -⟩ := own_rd ho
  have HD := Lib.hid (HD.out.trans hd)
  have HRD := Lib.hid (own_rd ho)
  have HTS := Lib.hid hTs
  have sz9 := hd.2.size
  clear hd ho hTs
  go_wp2_with fail
  refine (apFleet_c _ T _ (fun x hx => by have := HTS.out x hx; omega) HRD.out).mono ?_; rintro e w10 ⟨rfl, hb⟩
  have HD := Lib.hid (HD.out.bel hb)
  have HRD := Lib.hid (rd_below HRD.out hb)
  have sz10 := hb.size
  clear hb
  cases hg : goodFl T with
  | false =>
    have hS : (⟨#[112, 49, 47, 48, 47, 50, 47, 54, 47, 48, 59]⟩ : ByteArray).size ≤ 240 := by decide
    clear hg
    obtain ⟨S, hSS⟩ : ∃ S : ByteArray, ⟨#[112, 49, 47, 48, 47, 50, 47, 54, 47, 48, 59]⟩ = S := ⟨_, rfl⟩
    rw [hSS] at hS ⊢
    clear hSS
    go_wp2_with fail
    refine (pick_c B l HL.out (a + 300) (by omega) 6 (by omega) _ HD.out.1).mono ?_; rintro e Wp ⟨x, rfl, hx, hd⟩
    have HD := Lib.hid (HD.out.trans hd)
    clear hd
    rcases (show x = 0 ∨ x = 1 ∨ x = 2 ∨ 3 ≤ x by omega) with hx0 | hx0 | hx0 | hx0
    · subst hx0
      go_wp2_with fail
      refine (spoilt_c B l HL.out (a + 302) (by omega) S ⟨#[112, 49, 47, 59, 48, 57]⟩ (by omega) rfl _ HD.out.1).mono ?_; rintro e Ws ⟨r, rfl, hr, hd⟩
      have HD := Lib.hid (HD.out.trans hd)
      clear hd
      go_wp2
      go_ret
      have hbb : Below B w w0 := by rw [← HBD.out]; exact HB0.out
      have hfin : Below B w Ws := ⟨HD.out.2.os.trans hbb.os, HD.out.2.tape.trans hbb.tape, HD.out.2.output.trans hbb.output, Nat.le_trans hbb.size HD.out.2.size, fun i hi => (HD.out.2.block i (by omega) (fun e => by have := Option.some.inj e; omega)).trans (hbb.block i hi)⟩
      exact ⟨⟨r, rfl, by omega⟩, by rw [HBD.out]; exact hfin⟩
    · subst hx0
      go_wp2_with fail
      refine (spoilt_c B l HL.out (a + 302) (by omega) S ⟨#[112, 49, 47, 59, 48, 57]⟩ (by omega) rfl _ HD.out.1).mono ?_; rintro e Ws ⟨r, rfl, hr, hd⟩
      have HD := Lib.hid (HD.out.trans hd)
      clear hd
      go_wp2
      go_ret
      have hbb : Below B w w0 := by rw [← HBD.out]; exact HB0.out
      have hfin : Below B w Ws := ⟨HD.out.2.os.trans hbb.os, HD.out.2.tape.trans hbb.tape, HD.out.2.output.trans hbb.output, Nat.le_trans hbb.size HD.out.2.size, fun i hi => (HD.out.2.block i (by omega) (fun e => by have := Option.some.inj e; omega)).trans (hbb.block i hi)⟩
      exact ⟨⟨r, rfl, by omega⟩, by rw [HBD.out]; exact hfin⟩
    · subst hx0
      go_wp2_with fail
      generalize hW : World.alloc Wp _ = Wl
      have hlit : RdS Wl (.slice (some ⟨Wp.heap.size, 0, none⟩) 8 8) [⟨#[]⟩, ⟨#[59]⟩, ⟨#[112, 49, 47, 48, 47, 50, 47, 54, 47, 48]⟩, ⟨#[112, 49, 47, 48, 47, 50, 47, 54, 59]⟩, ⟨#[112, 49, 47, 48, 47, 50, 47, 54, 47, 54, 59]⟩, ⟨#[112, 49, 47, 48, 48, 47, 50, 47, 54, 47, 48, 59]⟩, ⟨#[112, 50, 47, 48, 47, 50, 47, 54, 47, 48, 59, 112, 49, 47, 48, 47, 50, 47, 54, 47, 48, 59]⟩, ⟨#[49, 112, 47, 48, 47, 50, 47, 54, 47, 48, 59]⟩] := by subst hW; exact rd_new Wp rfl (Nat.le_refl _) (by rw [maxLen_eq]; omega)
      have hbl : Below Wp.heap.size Wp Wl := by subst hW; exact bel_al (Below.refl _ _) _
      have hBW := HD.out.1.lt
      have HD := Lib.hid (HD.out.bel hbl)
      clear hW hbl
      refine (of_c B l HL.out (a + 302) (by omega) _ [⟨#[]⟩, ⟨#[59]⟩, ⟨#[112, 49, 47, 48, 47, 50, 47, 54, 47, 48]⟩, ⟨#[112, 49, 47, 48, 47, 50, 47, 54, 59]⟩, ⟨#[112, 49, 47, 48, 47, 50, 47, 54, 47, 54, 59]⟩, ⟨#[112, 49, 47, 48, 48, 47, 50, 47, 54, 47, 48, 59]⟩, ⟨#[112, 50, 47, 48, 47, 50, 47, 54, 47, 48, 59, 112, 49, 47, 48, 47, 50, 47, 54, 47, 48, 59]⟩, ⟨#[49, 112, 47, 48, 47, 50, 47, 54, 47, 48, 59]⟩] (by simp) (by simp) _ HD.out.1 hlit (lit_ne hBW)).mono ?_; rintro e Wm ⟨y, rfl, hy, hd⟩
      have hys : y.size ≤ 22 := by
        have h : ∀ z ∈ ([⟨#[]⟩, ⟨#[59]⟩, ⟨#[112, 49, 47, 48, 47, 50, 47, 54, 47, 48]⟩, ⟨#[112, 49, 47, 48, 47, 50, 47, 54, 59]⟩, ⟨#[112, 49, 47, 48, 47, 50, 47, 54, 47, 54, 59]⟩, ⟨#[112, 49, 47, 48, 48, 47, 50, 47, 54, 47, 48, 59]⟩, ⟨#[112, 50, 47, 48, 47, 50, 47, 54, 47, 48, 59, 112, 49, 47, 48, 47, 50, 47, 54, 47, 48, 59]⟩, ⟨#[49, 112, 47, 48, 47, 50, 47, 54, 47, 48, 59]⟩] : List ByteArray), z.size ≤ 22 := by decide
        exact h y hy
      have HD := Lib.hid (HD.out.trans hd)
      clear hd hlit hBW hy
      go_wp2
      go_ret
      have hbb : Below B w w0 := by rw [← HBD.out]; exact HB0.out
      have hfin : Below B w Wm := ⟨HD.out.2.os.trans hbb.os, HD.out.2.tape.trans hbb.tape, HD.out.2.output.trans hbb.output, Nat.le_trans hbb.size HD.out.2.size, fun i hi => (HD.out.2.block i (by omega) (fun e => by have := Option.some.inj e; omega)).trans (hbb.block i hi)⟩
      exact ⟨⟨y, rfl, by omega⟩, by rw [HBD.out]; exact hfin⟩
    · have n0 : ((x : Int) == 0) = false := beq_false_of_ne (by omega)
      have n1 : ((x : Int) == 1) = false := beq_false_of_ne (by omega)
      have n2 : ((x : Int) == 2) = false := beq_false_of_ne (by omega)
      go_wp2
      go_ret
      have hbb : Below B w w0 := by rw [← HBD.out]; exact HB0.out
      have hfin : Below B w Wp := ⟨HD.out.2.os.trans hbb.os, HD.out.2.tape.trans hbb.tape, HD.out.2.output.trans hbb.output, Nat.le_trans hbb.size HD.out.2.size, fun i hi => (HD.out.2.block i (by omega) (fun e => by have := Option.some.inj e; omega)).trans (hbb.block i hi)⟩
      exact ⟨⟨S, rfl, by omega⟩, by rw [HBD.out]; exact hfin⟩
  | true =>
    have hS := flT_small hg
    have HA := Lib.hid (goodFl_true hg).2
    have h12 := (goodFl_true hg).1
    clear hg
    go_wp2_with fail
    refine (apText_c _ T _ h12 HA.out HRD.out).mono ?_
    obtain ⟨S, hSS⟩ : ∃ S, flT T T.length = S := ⟨_, rfl⟩
    rw [hSS] at hS ⊢
    rintro e w11 ⟨rfl, hb⟩
    have HD := Lib.hid (HD.out.bel hb)
    have sz11 := hb.size
    clear hb hSS
    go_wp2_with fail
    refine (pick_c B l HL.out (a + 300) (by omega) 6 (by omega) _ HD.out.1).mono ?_; rintro e Wp ⟨x, rfl, hx, hd⟩
    have HD := Lib.hid (HD.out.trans hd)
    clear hd
    rcases (show x = 0 ∨ x = 1 ∨ x = 2 ∨ 3 ≤ x by omega) with hx0 | hx0 | hx0 | hx0
    · subst hx0
      go_wp2_with fail
      refine (spoilt_c B l HL.out (a + 302) (by omega) S ⟨#[112, 49, 47, 59, 48, 57]⟩ (by omega) rfl _ HD.out.1).mono ?_; rintro e Ws ⟨r, rfl, hr, hd⟩
      have HD := Lib.hid (HD.out.trans hd)
      clear hd
      go_wp2
      go_ret
      have hbb : Below B w w0 := by rw [← HBD.out]; exact HB0.out
      have hfin : Below B w Ws := ⟨HD.out.2.os.trans hbb.os, HD.out.2.tape.trans hbb.tape, HD.out.2.output.trans hbb.output, Nat.le_trans hbb.size HD.out.2.size, fun i hi => (HD.out.2.block i (by omega) (fun e => by have := Option.some.inj e; omega)).trans (hbb.block i hi)⟩
      exact ⟨⟨r, rfl, by omega⟩, by rw [HBD.out]; exact hfin⟩
    · subst hx0
      go_wp2_with fail
      refine (spoilt_c B l HL.out (a + 302) (by omega) S ⟨#[112, 49, 47, 59, 48, 57]⟩ (by omega) rfl _ HD.out.1).mono ?_; rintro e Ws ⟨r, rfl, hr, hd⟩
      have HD := Lib.hid (HD.out.trans hd)
      clear hd
      go_wp2
      go_ret
      have hbb : Below B w w0 := by rw [← HBD.out]; exact HB0.out
      have hfin : Below B w Ws := ⟨HD.out.2.os.trans hbb.os, HD.out.2.tape.trans hbb.tape, HD.out.2.output.trans hbb.output, Nat.le_trans hbb.size HD.out.2.size, fun i hi => (HD.out.2.block i (by omega) (fun e => by have := Option.some.inj e; omega)).trans (hbb.block i hi)⟩
      exact ⟨⟨r, rfl, by omega⟩, by rw [HBD.out]; exact hfin⟩
    · subst hx0
      go_wp2_with fail
      generalize hW : World.alloc Wp _ = Wl
      have hlit : RdS Wl (.slice (some ⟨Wp.heap.size, 0, none⟩) 8 8) [⟨#[]⟩, ⟨#[59]⟩, ⟨#[112, 49, 47, 48, 47, 50, 47, 54, 47, 48]⟩, ⟨#[112, 49, 47, 48, 47, 50, 47, 54, 59]⟩, ⟨#[112, 49, 47, 48, 47, 50, 47, 54, 47, 54, 59]⟩, ⟨#[112, 49, 47, 48, 48, 47, 50, 47, 54, 47, 48, 59]⟩, ⟨#[112, 50, 47, 48, 47, 50, 47, 54, 47, 48, 59, 112, 49, 47, 48, 47, 50, 47, 54, 47, 48, 59]⟩, ⟨#[49, 112, 47, 48, 47, 50, 47, 54, 47, 48, 59]⟩] := by subst hW; exact rd_new Wp rfl (Nat.le_refl _) (by rw [maxLen_eq]; omega)
      have hbl : Below Wp.heap.size Wp Wl := by subst hW; exact bel_al (Below.refl _ _) _
      have hBW := HD.out.1.lt
      have HD := Lib.hid (HD.out.bel hbl)
      clear hW hbl
      refine (of_c B l HL.out (a + 302) (by omega) _ [⟨#[]⟩, ⟨#[59]⟩, ⟨#[112, 49, 47, 48, 47, 50, 47, 54, 47, 48]⟩, ⟨#[112, 49, 47, 48, 47, 50, 47, 54, 59]⟩, ⟨#[112, 49, 47, 48, 47, 50, 47, 54, 47, 54, 59]⟩, ⟨#[112, 49, 47, 48, 48, 47, 50, 47, 54, 47, 48, 59]⟩, ⟨#[112, 50, 47, 48, 47, 50, 47, 54, 47, 48, 59, 112, 49, 47, 48, 47, 50, 47, 54, 47, 48, 59]⟩, ⟨#[49, 112, 47, 48, 47, 50, 47, 54, 47, 48, 59]⟩] (by simp) (by simp) _ HD.out.1 hlit (lit_ne hBW)).mono ?_; rintro e Wm ⟨y, rfl, hy, hd⟩
      have hys : y.size ≤ 22 := by
        have h : ∀ z ∈ ([⟨#[]⟩, ⟨#[59]⟩, ⟨#[112, 49, 47, 48, 47, 50, 47, 54, 47, 48]⟩, ⟨#[112, 49, 47, 48, 47, 50, 47, 54, 59]⟩, ⟨#[112, 49, 47, 48, 47, 50, 47, 54, 47, 54, 59]⟩, ⟨#[112, 49, 47, 48, 48, 47, 50, 47, 54, 47, 48, 59]⟩, ⟨#[112, 50, 47, 48, 47, 50, 47, 54, 47, 48, 59, 112, 49, 47, 48, 47, 50, 47, 54, 47, 48, 59]⟩, ⟨#[49, 112, 47, 48, 47, 50, 47, 54, 47, 48, 59]⟩] : List ByteArray), z.size ≤ 22 := by decide
        exact h y hy
      have HD := Lib.hid (HD.out.trans hd)
      clear hd hlit hBW hy
      go_wp2
      go_ret
      have hbb : Below B w w0 := by rw [← HBD.out]; exact HB0.out
      have hfin : Below B w Wm := ⟨HD.out.2.os.trans hbb.os, HD.out.2.tape.trans hbb.tape, HD.out.2.output.trans hbb.output, Nat.le_trans hbb.size HD.out.2.size, fun i hi => (HD.out.2.block i (by omega) (fun e => by have := Option.some.inj e; omega)).trans (hbb.block i hi)⟩
      exact ⟨⟨y, rfl, by omega⟩, by rw [HBD.out]; exact hfin⟩
    · have n0 : ((x : Int) == 0) = false := beq_false_of_ne (by omega)
      have n1 : ((x : Int) == 1) = false := beq_false_of_ne (by omega)
      have n2 : ((x : Int) == 2) = false := beq_false_of_ne (by omega)
      go_wp2
      go_ret
      have hbb : Below B w w0 := by rw [← HBD.out]; exact HB0.out
      have hfin : Below B w Wp := ⟨HD.out.2.os.trans hbb.os, HD.out.2.tape.trans hbb.tape, HD.out.2.output.trans hbb.output, Nat.le_trans hbb.size HD.out.2.size, fun i hi => (HD.out.2.block i (by omega) (fun e => by have := Option.some.inj e; omega)).trans (hbb.block i hi)⟩
      exact ⟨⟨S, rfl, by omega⟩, by rw [HBD.out]; exact hfin⟩
end Go.Proofs.YtgcdgcidjjdhmaaGreatDoor
