/-
  math.sin at an argument between 0 and pi/2, operation by operation (printed by gen_sin.py).
-/
import Derived.Test.YtibkadkodblefaaDoorMem
import Derived.Test.YtibkadkodblefaaDoorSinP
import Derived.Laws.Externs
import Derived.Deep.RegionLaw
import Derived.Deep.RegionWith
import Derived.Test.YtibkadkodblefaaDoorNum
namespace Go.Proofs.YtibkadkodblefaaDoor
open Go.RowKit

def sinTab : List Nat := [4460209587652500685, 13716528389658582877, 4523617212962785441, 13774824197404483331, 4575957461383575504, 13818544856648471880]
def cosTab : List Nat := [13666448263388469915, 4477121864728985349, 13732177093698800582, 4537941361668146421, 13787419979223748497, 4586165620538955083]
/-- The library's two tables of coefficients hold what its text lays in them. -/
def SinTab (w : World) : Prop := (∀ i c, sinTab[i]? = some c → w.cell? ⟨2, i, none⟩ = some (.float .f64 c)) ∧ ∀ i c, cosTab[i]? = some c → w.cell? ⟨1, i, none⟩ = some (.float .f64 c)
theorem cell_lt {w : World} {b o : Nat} {v : Value} (h : w.cell? ⟨b, o, none⟩ = some v) : b < w.heap.size := by
  rcases Nat.lt_or_ge b w.heap.size with k | k
  · exact k
  · unfold World.cell? at h
    rw [Array.getElem?_eq_none k] at h
    cases h
theorem sinTab_below {w w' : World} (h : SinTab w) (hb : Below w.heap.size w w') : SinTab w' :=
  ⟨fun i c hc => (hb.cell (p := ⟨_, i, none⟩) (cell_lt (h.1 i c hc))).trans (h.1 i c hc), fun i c hc => (hb.cell (p := ⟨_, i, none⟩) (cell_lt (h.2 i c hc))).trans (h.2 i c hc)⟩
theorem run_fmul {x y r : Nat} (h : floatBits .mul .f64 x y = some r) (t : TypeId) (W : World) : (binOp .mul t (.float .f64 x) (.float .f64 y)).run Tryd.prog W = .ok (.float .f64 r) W := run_float_arith W .mul t .f64 x y r h
theorem run_fadd {x y r : Nat} (h : floatBits .add .f64 x y = some r) (t : TypeId) (W : World) : (binOp .add t (.float .f64 x) (.float .f64 y)).run Tryd.prog W = .ok (.float .f64 r) W := run_float_arith W .add t .f64 x y r h
theorem run_fsub {x y r : Nat} (h : floatBits .sub .f64 x y = some r) (t : TypeId) (W : World) : (binOp .sub t (.float .f64 x) (.float .f64 y)).run Tryd.prog W = .ok (.float .f64 r) W := run_float_arith W .sub t .f64 x y r h
theorem run_fquo {x y r : Nat} (h : floatBits .quo .f64 x y = some r) (t : TypeId) (W : World) : (binOp .quo t (.float .f64 x) (.float .f64 y)).run Tryd.prog W = .ok (.float .f64 r) W := run_float_arith W .quo t .f64 x y r h
theorem fop_some {op : BinOp} {x y r : Nat} {f : Nat → Option Nat} (h : fop op x y f = some r) : ∃ q, floatBits op .f64 x y = some q ∧ f q = some r := Option.bind_eq_some_iff.1 h
theorem fj_some {x r : Nat} {j : Int} {f : Option Nat} (h : fj x j f = some r) : floatToIntVal .f64 x .u64 = some j ∧ f = some r := by
  unfold fj at h
  split at h
  · exact ⟨by assumption, h⟩
  · cases h
set_option maxHeartbeats 1000000 in
theorem isNaN_c (x : Nat) (w : World) (h : fcmp x x .eq = true) : Calls Tryd.prog 99 #[.float .f64 x] w fun e w' => e = .returned (.bool false) ∧ w = w' := by
  have h' : (FloatKind.f64.format.order x x != some .eq) = false := by unfold fcmp at h; simpa [bne] using h
  go_enter Tryd.func99, Tryd.ntmps99
  go_wp2
  go_ret
  first
    | exact ⟨by rw [h'], rfl⟩
    | exact ⟨rfl, rfl⟩

set_option maxRecDepth 100000 in
set_option maxHeartbeats 4000000 in
theorem sin0_c (x r : Nat) (w : World) (ht : SinTab w) (hv : sin0V x = some r)
    (x0 : fcmp x 0 .eq = false) (x1 : fcmp x x .eq = true) (x2 : fcmp x 0 .lt = false) (x3 : fcmp x 4737786807993761792 .gt = false) (x4 : fcmp x 4737786807993761792 .eq = false)
    (inf : ∀ W : World, Calls Tryd.prog 100 #[.float .f64 x, .int .i64 0] W fun e w' => e = .returned (.bool false) ∧ W = w') :
    Calls Tryd.prog 98 #[.float .f64 x] w fun e w' => e = .returned (.float .f64 r) ∧ Below w.heap.size w w' := by
  have X1 := Lib.hid x1
  have INF := Lib.hid inf
  clear x1 inf
  unfold fcmp at x0 x2 x3 x4
  unfold sin0V at hv
  obtain ⟨r1, e1, v1⟩ := fop_some hv
  obtain ⟨jc, v0⟩ := fj_some v1
  obtain ⟨r2, e2, v2⟩ := fop_some v0
  obtain ⟨r3, e3, v3⟩ := fop_some v2
  obtain ⟨r4, e4, v4⟩ := fop_some v3
  obtain ⟨r5, e5, v5⟩ := fop_some v4
  obtain ⟨r6, e6, v6⟩ := fop_some v5
  obtain ⟨r7, e7, v7⟩ := fop_some v6
  obtain ⟨r8, e8, v8⟩ := fop_some v7
  obtain ⟨r9, e9, v9⟩ := fop_some v8
  obtain ⟨r10, e10, v10⟩ := fop_some v9
  obtain ⟨r11, e11, v11⟩ := fop_some v10
  obtain ⟨r12, e12, v12⟩ := fop_some v11
  obtain ⟨r13, e13, v13⟩ := fop_some v12
  obtain ⟨r14, e14, v14⟩ := fop_some v13
  obtain ⟨r15, e15, v15⟩ := fop_some v14
  obtain ⟨r16, e16, v16⟩ := fop_some v15
  obtain ⟨r17, e17, v17⟩ := fop_some v16
  obtain ⟨r18, e18, v18⟩ := fop_some v17
  obtain ⟨r19, e19, v19⟩ := fop_some v18
  obtain ⟨r20, e20, v20⟩ := fop_some v19
  obtain ⟨r21, e21, v21⟩ := fop_some v20
  obtain rfl := Option.some.inj v21
  clear hv v1 v0 v2 v3 v4 v5 v6 v7 v8 v9 v10 v11 v12 v13 v14 v15 v16 v17 v18 v19 v20 v21
  have g0 := ht.1 0 4460209587652500685 rfl
  have g1 := ht.1 1 13716528389658582877 rfl
  have g2 := ht.1 2 4523617212962785441 rfl
  have g3 := ht.1 3 13774824197404483331 rfl
  have g4 := ht.1 4 4575957461383575504 rfl
  have g5 := ht.1 5 13818544856648471880 rfl
  have hc : ∀ W : World, (convert 101 89 (.float .f64 r1)).run Tryd.prog W = .ok (.int .u64 0) W := fun W => run_convert_float_int W _ _ .f64 .u64 _ _ (by rw [Tryd.underlying101]; rfl) Tryd.underlying89 jc
  have f1 := run_fmul e1
  have f2 := run_fmul e2
  have f3 := run_fsub e3
  have f4 := run_fmul e4
  have f5 := run_fsub e5
  have f6 := run_fmul e6
  have f7 := run_fsub e7
  have f8 := run_fmul e8
  have f9 := run_fmul e9
  have f10 := run_fmul e10
  have f11 := run_fadd e11
  have f12 := run_fmul e12
  have f13 := run_fadd e13
  have f14 := run_fmul e14
  have f15 := run_fadd e15
  have f16 := run_fmul e16
  have f17 := run_fadd e17
  have f18 := run_fmul e18
  have f19 := run_fadd e19
  have f20 := run_fmul e20
  have f21 := run_fadd e21
  clear jc e1 e2 e3 e4 e5 e6 e7 e8 e9 e10 e11 e12 e13 e14 e15 e16 e17 e18 e19 e20 e21
  go_enter Tryd.func98, Tryd.ntmps98
  go_wp2_with (go_at_call 99; refine (isNaN_c x _ X1.out).mono ?_; rintro e w' ⟨rfl, rfl⟩)
  refine (INF.out _).mono ?_; rintro e w2 ⟨rfl, rfl⟩
  go_wp2_with fail
  go_ret
  exact ⟨rfl, Below.refl _ _⟩
set_option maxRecDepth 100000 in
set_option maxHeartbeats 4000000 in
theorem sin1_c (x r : Nat) (w : World) (ht : SinTab w) (hv : sin1V x = some r)
    (x0 : fcmp x 0 .eq = false) (x1 : fcmp x x .eq = true) (x2 : fcmp x 0 .lt = false) (x3 : fcmp x 4737786807993761792 .gt = false) (x4 : fcmp x 4737786807993761792 .eq = false)
    (inf : ∀ W : World, Calls Tryd.prog 100 #[.float .f64 x, .int .i64 0] W fun e w' => e = .returned (.bool false) ∧ W = w') :
    Calls Tryd.prog 98 #[.float .f64 x] w fun e w' => e = .returned (.float .f64 r) ∧ Below w.heap.size w w' := by
  have X1 := Lib.hid x1
  have INF := Lib.hid inf
  clear x1 inf
  unfold fcmp at x0 x2 x3 x4
  unfold sin1V at hv
  obtain ⟨r1, e1, v1⟩ := fop_some hv
  obtain ⟨jc, v0⟩ := fj_some v1
  obtain ⟨r2, e2, v2⟩ := fop_some v0
  obtain ⟨r3, e3, v3⟩ := fop_some v2
  obtain ⟨r4, e4, v4⟩ := fop_some v3
  obtain ⟨r5, e5, v5⟩ := fop_some v4
  obtain ⟨r6, e6, v6⟩ := fop_some v5
  obtain ⟨r7, e7, v7⟩ := fop_some v6
  obtain ⟨r8, e8, v8⟩ := fop_some v7
  obtain ⟨r9, e9, v9⟩ := fop_some v8
  obtain ⟨r10, e10, v10⟩ := fop_some v9
  obtain ⟨r11, e11, v11⟩ := fop_some v10
  obtain ⟨r12, e12, v12⟩ := fop_some v11
  obtain ⟨r13, e13, v13⟩ := fop_some v12
  obtain ⟨r14, e14, v14⟩ := fop_some v13
  obtain ⟨r15, e15, v15⟩ := fop_some v14
  obtain ⟨r16, e16, v16⟩ := fop_some v15
  obtain ⟨r17, e17, v17⟩ := fop_some v16
  obtain ⟨r18, e18, v18⟩ := fop_some v17
  obtain ⟨r19, e19, v19⟩ := fop_some v18
  obtain ⟨r20, e20, v20⟩ := fop_some v19
  obtain ⟨r21, e21, v21⟩ := fop_some v20
  obtain ⟨r22, e22, v22⟩ := fop_some v21
  obtain ⟨r23, e23, v23⟩ := fop_some v22
  obtain ⟨r24, e24, v24⟩ := fop_some v23
  obtain rfl := Option.some.inj v24
  clear hv v1 v0 v2 v3 v4 v5 v6 v7 v8 v9 v10 v11 v12 v13 v14 v15 v16 v17 v18 v19 v20 v21 v22 v23 v24
  have g0 := ht.2 0 13666448263388469915 rfl
  have g1 := ht.2 1 4477121864728985349 rfl
  have g2 := ht.2 2 13732177093698800582 rfl
  have g3 := ht.2 3 4537941361668146421 rfl
  have g4 := ht.2 4 13787419979223748497 rfl
  have g5 := ht.2 5 4586165620538955083 rfl
  have hc : ∀ W : World, (convert 101 89 (.float .f64 r1)).run Tryd.prog W = .ok (.int .u64 1) W := fun W => run_convert_float_int W _ _ .f64 .u64 _ _ (by rw [Tryd.underlying101]; rfl) Tryd.underlying89 jc
  have f1 := run_fmul e1
  have f2 := run_fadd e2
  have f3 := run_fmul e3
  have f4 := run_fsub e4
  have f5 := run_fmul e5
  have f6 := run_fsub e6
  have f7 := run_fmul e7
  have f8 := run_fsub e8
  have f9 := run_fmul e9
  have f10 := run_fmul e10
  have f11 := run_fsub e11
  have f12 := run_fmul e12
  have f13 := run_fmul e13
  have f14 := run_fadd e14
  have f15 := run_fmul e15
  have f16 := run_fadd e16
  have f17 := run_fmul e17
  have f18 := run_fadd e18
  have f19 := run_fmul e19
  have f20 := run_fadd e20
  have f21 := run_fmul e21
  have f22 := run_fadd e22
  have f23 := run_fmul e23
  have f24 := run_fadd e24
  clear jc e1 e2 e3 e4 e5 e6 e7 e8 e9 e10 e11 e12 e13 e14 e15 e16 e17 e18 e19 e20 e21 e22 e23 e24
  go_enter Tryd.func98, Tryd.ntmps98
  go_wp2_with (go_at_call 99; refine (isNaN_c x _ X1.out).mono ?_; rintro e w' ⟨rfl, rfl⟩)
  refine (INF.out _).mono ?_; rintro e w2 ⟨rfl, rfl⟩
  go_wp2_with fail
  go_ret
  exact ⟨rfl, Below.refl _ _⟩
set_option maxRecDepth 100000 in
set_option maxHeartbeats 4000000 in
theorem sin2_c (x r : Nat) (w : World) (ht : SinTab w) (hv : sin2V x = some r)
    (x0 : fcmp x 0 .eq = false) (x1 : fcmp x x .eq = true) (x2 : fcmp x 0 .lt = false) (x3 : fcmp x 4737786807993761792 .gt = false) (x4 : fcmp x 4737786807993761792 .eq = false)
    (inf : ∀ W : World, Calls Tryd.prog 100 #[.float .f64 x, .int .i64 0] W fun e w' => e = .returned (.bool false) ∧ W = w') :
    Calls Tryd.prog 98 #[.float .f64 x] w fun e w' => e = .returned (.float .f64 r) ∧ Below w.heap.size w w' := by
  have X1 := Lib.hid x1
  have INF := Lib.hid inf
  clear x1 inf
  unfold fcmp at x0 x2 x3 x4
  unfold sin2V at hv
  obtain ⟨r1, e1, v1⟩ := fop_some hv
  obtain ⟨jc, v0⟩ := fj_some v1
  obtain ⟨r2, e2, v2⟩ := fop_some v0
  obtain ⟨r3, e3, v3⟩ := fop_some v2
  obtain ⟨r4, e4, v4⟩ := fop_some v3
  obtain ⟨r5, e5, v5⟩ := fop_some v4
  obtain ⟨r6, e6, v6⟩ := fop_some v5
  obtain ⟨r7, e7, v7⟩ := fop_some v6
  obtain ⟨r8, e8, v8⟩ := fop_some v7
  obtain ⟨r9, e9, v9⟩ := fop_some v8
  obtain ⟨r10, e10, v10⟩ := fop_some v9
  obtain ⟨r11, e11, v11⟩ := fop_some v10
  obtain ⟨r12, e12, v12⟩ := fop_some v11
  obtain ⟨r13, e13, v13⟩ := fop_some v12
  obtain ⟨r14, e14, v14⟩ := fop_some v13
  obtain ⟨r15, e15, v15⟩ := fop_some v14
  obtain ⟨r16, e16, v16⟩ := fop_some v15
  obtain ⟨r17, e17, v17⟩ := fop_some v16
  obtain ⟨r18, e18, v18⟩ := fop_some v17
  obtain ⟨r19, e19, v19⟩ := fop_some v18
  obtain ⟨r20, e20, v20⟩ := fop_some v19
  obtain ⟨r21, e21, v21⟩ := fop_some v20
  obtain ⟨r22, e22, v22⟩ := fop_some v21
  obtain ⟨r23, e23, v23⟩ := fop_some v22
  obtain rfl := Option.some.inj v23
  clear hv v1 v0 v2 v3 v4 v5 v6 v7 v8 v9 v10 v11 v12 v13 v14 v15 v16 v17 v18 v19 v20 v21 v22 v23
  have g0 := ht.2 0 13666448263388469915 rfl
  have g1 := ht.2 1 4477121864728985349 rfl
  have g2 := ht.2 2 13732177093698800582 rfl
  have g3 := ht.2 3 4537941361668146421 rfl
  have g4 := ht.2 4 13787419979223748497 rfl
  have g5 := ht.2 5 4586165620538955083 rfl
  have hc : ∀ W : World, (convert 101 89 (.float .f64 r1)).run Tryd.prog W = .ok (.int .u64 2) W := fun W => run_convert_float_int W _ _ .f64 .u64 _ _ (by rw [Tryd.underlying101]; rfl) Tryd.underlying89 jc
  have f1 := run_fmul e1
  have f2 := run_fmul e2
  have f3 := run_fsub e3
  have f4 := run_fmul e4
  have f5 := run_fsub e5
  have f6 := run_fmul e6
  have f7 := run_fsub e7
  have f8 := run_fmul e8
  have f9 := run_fmul e9
  have f10 := run_fsub e10
  have f11 := run_fmul e11
  have f12 := run_fmul e12
  have f13 := run_fadd e13
  have f14 := run_fmul e14
  have f15 := run_fadd e15
  have f16 := run_fmul e16
  have f17 := run_fadd e17
  have f18 := run_fmul e18
  have f19 := run_fadd e19
  have f20 := run_fmul e20
  have f21 := run_fadd e21
  have f22 := run_fmul e22
  have f23 := run_fadd e23
  clear jc e1 e2 e3 e4 e5 e6 e7 e8 e9 e10 e11 e12 e13 e14 e15 e16 e17 e18 e19 e20 e21 e22 e23
  go_enter Tryd.func98, Tryd.ntmps98
  go_wp2_with (go_at_call 99; refine (isNaN_c x _ X1.out).mono ?_; rintro e w' ⟨rfl, rfl⟩)
  refine (INF.out _).mono ?_; rintro e w2 ⟨rfl, rfl⟩
  go_wp2_with fail
  go_ret
  exact ⟨rfl, Below.refl _ _⟩
/-! ### Bits of floats -/
theorem run_f64bits (b : Nat) (W : World) : (callFunc 95 #[.float .f64 b]).run Tryd.prog W = .ok (.value (.int .u64 b)) W := by
  rw [run_callFunc_extern Tryd.func95 (by kernel_rfl) (by kernel_rfl) (by kernel_rfl) (e := Extern.MathFloatBits.float64bits) (by kernel_rfl)]; rfl
theorem run_f64from (n : Int) (W : World) : (callFunc 96 #[.int .u64 n]).run Tryd.prog W = .ok (.value (.float .f64 n.toNat)) W := by
  rw [run_callFunc_extern Tryd.func96 (by kernel_rfl) (by kernel_rfl) (by kernel_rfl) (e := Extern.MathFloatBits.float64frombits) (by kernel_rfl)]; rfl
set_option maxHeartbeats 1000000 in
theorem abs_c (x : Nat) (w : World) (h : (bits .andNot .u64 (x : Int) 9223372036854775808).toNat = x) : Calls Tryd.prog 103 #[.float .f64 x] w fun e w' => e = .returned (.float .f64 x) ∧ w = w' := by
  have hb := run_f64bits x
  have hf := run_f64from
  go_enter Tryd.func103, Tryd.ntmps103
  go_wp2_with fail
  go_ret
  exact ⟨rfl, rfl⟩
set_option maxHeartbeats 1000000 in
theorem isInf_c (x : Nat) (w : World) (h : (bits .andNot .u64 (x : Int) 9223372036854775808).toNat = x) (k : fcmp x 9218868437227405311 .gt = false) : Calls Tryd.prog 100 #[.float .f64 x, .int .i64 0] w fun e w' => e = .returned (.bool false) ∧ w = w' := by
  unfold fcmp at k
  go_enter Tryd.func100, Tryd.ntmps100
  go_wp2_with (go_at_call 103; refine (abs_c x _ h).mono ?_; rintro e w' ⟨rfl, rfl⟩)
  go_ret
  exact ⟨rfl, rfl⟩
theorem rnd1 {b : Nat} (h : rndE b < 1023) (k : (rndE b == 1022) = true) : rndV b = (bits .or .u64 (bits .and .u64 (b : Int) 9223372036854775808) 4607182418800017408).toNat := by
  unfold rndV; rw [if_pos h, if_pos k]
theorem rnd2 {b : Nat} (h : rndE b < 1023) (k : (rndE b == 1022) = false) : rndV b = (bits .and .u64 (b : Int) 9223372036854775808).toNat := by
  unfold rndV; rw [if_pos h, if_neg (by rw [k]; simp)]
theorem rnd3 {b : Nat} (h : 1023 ≤ rndE b) (k : rndE b < 1075) : rndV b = (bits .andNot .u64 (IntKind.u64.wrap ((b : Int) + 2251799813685248 / 2 ^ (rndE b - 1023).toNat)) (4503599627370495 / 2 ^ (rndE b - 1023).toNat)).toNat := by
  unfold rndV; rw [if_neg (by omega), if_pos k]
theorem rnd4 {b : Nat} (k : 1075 ≤ rndE b) : rndV b = ((b : Nat) : Int).toNat := by
  unfold rndV; rw [if_neg (by omega), if_neg (by omega)]
theorem ret_fl {x y : Nat} (h : x = y) : Ending.returned (.float .f64 y) = .returned (.float .f64 x) := by rw [h]
set_option maxRecDepth 100000 in
set_option maxHeartbeats 1000000 in
theorem round_c (b : Nat) (w : World) : Calls Tryd.prog 87 #[.float .f64 b] w fun e w' => e = .returned (.float .f64 (rndV b)) ∧ w = w' := by
  have hb := run_f64bits b
  have hf := run_f64from
  obtain ⟨E, hE⟩ : ∃ E, bits .and .u64 ((b : Int) / 4503599627370496) 2047 = E := ⟨_, rfl⟩
  have HE := Lib.hid hE
  go_enter Tryd.func87, Tryd.ntmps87
  go_wp2_with fail
  all_goals go_ret
  · subst hE; exact ⟨ret_fl (rnd1 (by assumption) (by assumption)), rfl⟩
  · subst hE; exact ⟨ret_fl (rnd2 (by assumption) (by assumption)), rfl⟩
  · subst hE; exact ⟨ret_fl (rnd3 (by assumption) (by assumption)), rfl⟩
  · subst hE; exact ⟨ret_fl (rnd4 (by assumption)), rfl⟩
/-! ### Sine of a whole degree -/
set_option maxRecDepth 100000 in
set_option maxHeartbeats 1000000 in
theorem sinZero_c (w : World) : Calls Tryd.prog 98 #[.float .f64 0] w fun e w' => e = .returned (.float .f64 0) ∧ Below w.heap.size w w' := by
  have x0 : (FloatKind.f64.format.order 0 0 == some Ordering.eq) = true := by kernel_rfl
  go_enter Tryd.func98, Tryd.ntmps98
  go_wp2_with fail
  go_ret
  exact ⟨rfl, Below.refl _ _⟩
theorem sinDeg_c (d : Nat) (hd : d < 91) (w : World) (ht : SinTab w) : Calls Tryd.prog 98 #[.float .f64 (degX d)] w fun e w' => e = .returned (.float .f64 (degS d)) ∧ Below w.heap.size w w' := by
  by_cases h0 : d = 0
  · subst h0
    rw [deg_zero.1, show degS 0 = 0 from rfl]
    exact sinZero_c w
  · obtain ⟨c1, c2, c3, c4, c5, c6, c7⟩ := (deg_cmp d hd).resolve_left h0
    rcases (deg_sin d hd).resolve_left h0 with h | h | h
    · exact sin0_c _ _ w ht h c1 c2 c3 c4 c5 (fun W => isInf_c _ W c7 c6)
    · exact sin1_c _ _ w ht h c1 c2 c3 c4 c5 (fun W => isInf_c _ W c7 c6)
    · exact sin2_c _ _ w ht h c1 c2 c3 c4 c5 (fun W => isInf_c _ W c7 c6)
set_option maxHeartbeats 1000000 in
theorem mathSin_c (d : Nat) (hd : d < 91) (w : World) (ht : SinTab w) : Calls Tryd.prog 88 #[.float .f64 (degX d)] w fun e w' => e = .returned (.float .f64 (degS d)) ∧ Below w.heap.size w w' := by
  have HT := Lib.hid ht
  clear ht
  go_enter Tryd.func88, Tryd.ntmps88
  go_wp2_with (go_at_call 98; refine (sinDeg_c d hd _ HT.out).mono ?_; rintro e w' ⟨rfl, hb⟩)
  go_ret
  exact ⟨rfl, hb⟩

end Go.Proofs.YtibkadkodblefaaDoor
