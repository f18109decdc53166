/-
  The walk of the law of AreStations.
-/
import Derived.Test.YtemcdgchleijbaaSta
import Derived.Test.YtemcdgchleijbaaTownV
import Derived.Test.YtemcdgchleijbaaIntsC
namespace Go.Proofs.Ytemcdgchleijbaa
open Go.RowKit

set_option maxHeartbeats 400000 in
theorem areStaS_c (n : Int) (s v : Value) (l : List St) (q : List Int) (w : World) (hr : Rd w s l.length (l.flatMap St.cells)) (hq : RdI w v q) :
    Calls Try.prog 16 #[.agg #[.int .i64 n, s], v] w fun en w' => en = .returned (.bool (goodSta n l q)) ∧ Below w.heap.size w w' := by
  have HR := Lib.hid hr
  have HQ := Lib.hid hq
  clear hr hq
  go_enter Try.func16, Try.ntmps16
  go_wp2_with (go_at_call 48; refine (cvStations_c _ _ _ l q _ (rd_below HR.out (bel_al (Below.refl _ _) _)) (rdi_below HQ.out (bel_al (Below.refl _ _) _))).mono ?_; rintro e w' ⟨rfl, hb1⟩)
  go_ret
  exact ⟨rfl, bel_then (bel_al (Below.refl _ _) _) hb1⟩
set_option maxHeartbeats 400000 in
theorem areStaI_c (n : Int) (s v : Value) (l : List St) (q : List Int) (w : World) (hr : Rd w s l.length (l.flatMap St.cells)) (hq : RdI w v q) :
    Calls Try.prog 19 #[.agg #[.int .i64 n, s], v] w fun en w' => en = .returned (.bool (goodSta n l q)) ∧ Below w.heap.size w w' := by
  have HR := Lib.hid hr
  have HQ := Lib.hid hq
  clear hr hq
  go_enter Try.func19, Try.ntmps19
  go_wp2_with (go_at_call 50; refine (areStations_c n s _ l q _ _ (by simp [go_sem]) (by simp [go_sem]) (rd_below HR.out (bel_al (Below.refl _ _) _)) (rdi_below HQ.out (bel_al (Below.refl _ _) _))).mono ?_; rintro e w' ⟨rfl, hb1⟩)
  go_ret
  exact ⟨rfl, bel_then (bel_al (Below.refl _ _) _) hb1⟩

set_option maxRecDepth 100000 in
set_option maxHeartbeats 1000000 in
theorem walk_FnExactAreStations (w : World) (n : Int) (s : Value) (l : List St) (hr : Rd w s l.length (l.flatMap St.cells)) (v : Value) (q : List Int) (hq : RdI w v q) :
    Calls Try.prog 3 #[.agg #[.int .i64 n, s], v] w fun en w' => en = .returned (.bool true) ∧ Below w.heap.size w w' := by
  have HR := Lib.hid hr
  have HQ := Lib.hid hq
  obtain ⟨A, c, rfl, _⟩ := hr
  obtain ⟨A', c', rfl, _⟩ := hq
  by_cases hbq : (1048576 : Int) < q.length
  · go_enter Try.func3, Try.ntmps3
    go_wp2
    go_ret
    exact ⟨rfl, (by repeat (first | exact Below.refl _ _ | assumption | refine bel_al ?_ _ | refine bel_dr ?_ | refine below_drewN ?_ _ | refine bel_then ?_ (by assumption)))⟩
  by_cases hbig : (1048576 : Int) < l.length
  · go_enter Try.func3, Try.ntmps3
    go_wp2_with (go_at_call 15; refine (szTown_big _ _ l _ _ (by omega) (by omega) (rd_below HR.out (bel_al (Below.refl _ _) _)) (by omega)).mono ?_; rintro e w' ⟨rfl, hb1⟩)
    go_ret
    exact ⟨rfl, bel_then (bel_al (Below.refl _ _) _) hb1⟩
  go_enter Try.func3, Try.ntmps3
  go_wp2_with fail
  (generalize hw1 : World.alloc w _ = w1; have k0 : w1.cell? ⟨w.heap.size, 0, none⟩ = some (.int .i64 n) := (by subst hw1; simp [go_sem]); have k1 : w1.cell? ⟨w.heap.size, 1, none⟩ = some (.slice A l.length c) := (by subst hw1; simp [go_sem]); have hb0 : Below w.heap.size w w1 := (by subst hw1; exact bel_al (Below.refl _ _) _); have hsz1 : w.heap.size < w1.heap.size := (by subst hw1; simp); clear hw1)
  refine (szTown_fits _ _ l _ _ (by omega) (rd_below HR.out hb0) (by omega)).mono ?_; rintro e w2 ⟨rfl, c2⟩
  have z0 := (c2.cell (p := ⟨w.heap.size, 0, none⟩) hsz1).trans k0
  have z1 := (c2.cell (p := ⟨w.heap.size, 1, none⟩) hsz1).trans k1
  have b2 := bel_then hb0 c2
  have s2 := c2.size
  go_wp2_with fail
  refine (toTown_c n _ l _ (by omega) (rd_below HR.out b2)).mono ?_; rintro e w3 ⟨x3, rfl, ho3, c3⟩
  have s3 := c3.size
  have b3 := bel_then b2 c3
  go_wp2_with fail
  refine (toIntS_c _ q _ (by omega) (rdi_below HQ.out b3)).mono ?_; rintro e w4 ⟨x4, rfl, ho4, c4⟩
  have s4 := c4.size
  have b4 := bel_then b3 c4
  go_wp2_with fail
  refine (areStaS_c n _ _ l q _ (rd_below (own_rd ho3) c4) (rdi_own ho4)).mono ?_; rintro e w5 ⟨rfl, c5⟩
  have s5 := c5.size
  have b5 := bel_then b4 c5
  have t0 := ((bel_then (bel_then (bel_then c2 c3) c4) c5).cell (p := ⟨w.heap.size, 0, none⟩) hsz1).trans k0
  have t1 := ((bel_then (bel_then (bel_then c2 c3) c4) c5).cell (p := ⟨w.heap.size, 1, none⟩) hsz1).trans k1
  clear z0 z1 ho3 ho4
  go_wp2_with fail
  refine (toTown_c n _ l _ (by omega) (rd_below HR.out b5)).mono ?_; rintro e w6 ⟨x6, rfl, ho6, c6⟩
  have s6 := c6.size
  have b6 := bel_then b5 c6
  obtain ⟨A6, c6', rfl, _⟩ := own_rd ho6
  have HO6 := Lib.hid ho6
  clear ho6
  go_wp2_with fail
  generalize hW7 : World.alloc w6 _ = w7
  have p0 : w7.cell? ⟨w6.heap.size, 0, none⟩ = some (.int .i64 n) := by subst hW7; simp [go_sem]
  have p1 : w7.cell? ⟨w6.heap.size, 1, none⟩ = some (.slice A6 l.length c6') := by subst hW7; simp [go_sem]
  have c7 : Below w6.heap.size w6 w7 := by subst hW7; exact bel_al (Below.refl _ _) _
  have s7 : w6.heap.size < w7.heap.size := by subst hW7; simp
  clear hW7
  have b7 := bel_then b6 c7
  refine (toIntS_c _ q _ (by omega) (rdi_below HQ.out b7)).mono ?_; rintro e w8 ⟨x8, rfl, ho8, c8⟩
  have s8 := c8.size
  have b8 := bel_then b7 c8
  have HO8 := Lib.hid ho8
  clear ho8
  have y0 := (c8.cell (p := ⟨w6.heap.size, 0, none⟩) s7).trans p0
  have y1 := (c8.cell (p := ⟨w6.heap.size, 1, none⟩) s7).trans p1
  obtain ⟨A8, c8', rfl, _⟩ := own_rd HO8.out
  go_wp2_with fail
  refine (areStaI_c n _ _ l q _ (rd_below (own_rd HO6.out) (bel_then c7 c8)) (rdi_own HO8.out)).mono ?_; rintro e w9 ⟨rfl, c9⟩
  have s9 := c9.size
  have b9 := bel_then b8 c9
  have hne : (goodSta n l q != goodSta n l q) = false := by simp
  clear y0 y1
  have y0 := ((bel_then c8 c9).cell (p := ⟨w6.heap.size, 0, none⟩) s7).trans p0
  have y1 := ((bel_then c8 c9).cell (p := ⟨w6.heap.size, 1, none⟩) s7).trans p1
  have r0 := ((bel_then (bel_then (bel_then c6 c7) c8) c9).cell (p := ⟨w.heap.size, 0, none⟩) (by simp; omega)).trans t0
  have r1 := ((bel_then (bel_then (bel_then c6 c7) c8) c9).cell (p := ⟨w.heap.size, 1, none⟩) (by simp; omega)).trans t1
  clear t0 t1 p0 p1
  have hzz : w.heap.size < w9.heap.size := by omega
  have hzx : w6.heap.size < w9.heap.size := by omega
  have G6 : Hid (Rd w9 (.slice A6 l.length c6') l.length (l.flatMap St.cells)) := Lib.hid (rd_below (own_rd HO6.out) (bel_then (bel_then c7 c8) c9))
  have G8 : Hid (RdI w9 (.slice A8 q.length c8') q) := Lib.hid (rdi_below (rdi_own HO8.out) c9)
  have B9 := Lib.hid b9
  clear b2 b3 b4 b5 b6 b7 b8 b9 c2 c3 c4 c5 c6 c7 c8 c9 hb0 k0 k1
  go_wp2_with fail
  go_region_held3 (fun w' => w'.cell? ⟨w.heap.size, 0, none⟩ = some (.int .i64 n) ∧ w'.cell? ⟨w.heap.size, 1, none⟩ = some (.slice A l.length c) ∧ w'.cell? ⟨w6.heap.size, 0, none⟩ = some (.int .i64 n) ∧ w'.cell? ⟨w6.heap.size, 1, none⟩ = some (.slice A6 l.length c6')) (first | go_keep | (go_split_ands; refine ⟨?_, ?_, ?_, ?_⟩ <;> (rw [hb1.cell (by simp; omega)]; assumption)))
    (first | (go_at_call 17; refine (toTown_c n _ l _ (by omega) (rd_below HR.out (bel_dr B9.out))).mono ?_; rintro e w' ⟨x9, rfl, ho9, hb1⟩; have hbT := hb1; have sT : w9.heap.size ≤ w'.heap.size := hb1.size) | (go_at_call 20; refine (eqTown_c n _ _ l _ (rd_below (rd_below G6.out (bel_dr (Below.refl _ _))) hbT) (own_rd ho9)).mono ?_; rintro e w'' ⟨rfl, hb1⟩; have sE := hb1.size))
  have b10 := bel_then (bel_then (bel_dr B9.out) hbT) hb1
  have e10 := bel_then (bel_then (bel_dr (Below.refl w9.heap.size w9)) hbT) hb1
  clear hb1 hbT ho9
  go_wp2_with fail
  refine (toIntS_c _ q _ (by omega) (rdi_below HQ.out b10)).mono ?_; rintro e w11 ⟨x11, rfl, ho11, c11⟩
  go_wp2_with fail
  refine (eqIntS_c _ _ q q _ (rdi_below G8.out (bel_then e10 c11)) (rdi_own ho11)).mono ?_; rintro e w12 ⟨rfl, c12⟩
  go_wp2
  go_ret
  exact ⟨rfl, bel_then (bel_then b10 c11) c12⟩
end Go.Proofs.Ytemcdgchleijbaa
