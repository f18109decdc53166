/-
  The bits of math.sin, and what the kernel reckons at 0 to 90 degrees (printed by gen_sin.py).
-/
import Derived.Test.YtibkadkodblefaaDoorLadP
import Derived.Laws.FloatArith
namespace Go.Proofs.YtibkadkodblefaaDoor
open Go.RowKit

def fcmp (x y : Nat) (o : Ordering) : Bool := FloatKind.f64.format.order x y == some o
def fop (op : BinOp) (x y : Nat) (f : Nat → Option Nat) : Option Nat := (floatBits op .f64 x y).bind f
def fj (x : Nat) (j : Int) (f : Option Nat) : Option Nat := if floatToIntVal .f64 x .u64 = some j then f else none
def sin0V (x : Nat) : Option Nat := fop .mul x 4608412980311869571 fun r1 => fj r1 0 <| fop .mul (floatOfInt .f64 0) 4605249456957292544 fun r2 => fop .sub x r2 fun r3 => fop .mul (floatOfInt .f64 0) 4495793288086814720 fun r4 => fop .sub r3 r4 fun r5 => fop .mul (floatOfInt .f64 0) 4388835458085048688 fun r6 => fop .sub r5 r6 fun r7 => fop .mul r7 r7 fun r8 => fop .mul r7 r8 fun r9 => fop .mul 4460209587652500685 r8 fun r10 => fop .add r10 13716528389658582877 fun r11 => fop .mul r11 r8 fun r12 => fop .add r12 4523617212962785441 fun r13 => fop .mul r13 r8 fun r14 => fop .add r14 13774824197404483331 fun r15 => fop .mul r15 r8 fun r16 => fop .add r16 4575957461383575504 fun r17 => fop .mul r17 r8 fun r18 => fop .add r18 13818544856648471880 fun r19 => fop .mul r9 r19 fun r20 => fop .add r7 r20 fun r21 => some r21
def sin1V (x : Nat) : Option Nat := fop .mul x 4608412980311869571 fun r1 => fj r1 1 <| fop .add (floatOfInt .f64 1) 4607182418800017408 fun r2 => fop .mul r2 4605249456957292544 fun r3 => fop .sub x r3 fun r4 => fop .mul r2 4495793288086814720 fun r5 => fop .sub r4 r5 fun r6 => fop .mul r2 4388835458085048688 fun r7 => fop .sub r6 r7 fun r8 => fop .mul r8 r8 fun r9 => fop .mul 4602678819172646912 r9 fun r10 => fop .sub 4607182418800017408 r10 fun r11 => fop .mul r9 r9 fun r12 => fop .mul 13666448263388469915 r9 fun r13 => fop .add r13 4477121864728985349 fun r14 => fop .mul r14 r9 fun r15 => fop .add r15 13732177093698800582 fun r16 => fop .mul r16 r9 fun r17 => fop .add r17 4537941361668146421 fun r18 => fop .mul r18 r9 fun r19 => fop .add r19 13787419979223748497 fun r20 => fop .mul r20 r9 fun r21 => fop .add r21 4586165620538955083 fun r22 => fop .mul r12 r22 fun r23 => fop .add r11 r23 fun r24 => some r24
def sin2V (x : Nat) : Option Nat := fop .mul x 4608412980311869571 fun r1 => fj r1 2 <| fop .mul (floatOfInt .f64 2) 4605249456957292544 fun r2 => fop .sub x r2 fun r3 => fop .mul (floatOfInt .f64 2) 4495793288086814720 fun r4 => fop .sub r3 r4 fun r5 => fop .mul (floatOfInt .f64 2) 4388835458085048688 fun r6 => fop .sub r5 r6 fun r7 => fop .mul r7 r7 fun r8 => fop .mul 4602678819172646912 r8 fun r9 => fop .sub 4607182418800017408 r9 fun r10 => fop .mul r8 r8 fun r11 => fop .mul 13666448263388469915 r8 fun r12 => fop .add r12 4477121864728985349 fun r13 => fop .mul r13 r8 fun r14 => fop .add r14 13732177093698800582 fun r15 => fop .mul r15 r8 fun r16 => fop .add r16 4537941361668146421 fun r17 => fop .mul r17 r8 fun r18 => fop .add r18 13787419979223748497 fun r19 => fop .mul r19 r8 fun r20 => fop .add r20 4586165620538955083 fun r21 => fop .mul r11 r21 fun r22 => fop .add r10 r22 fun r23 => some r23
def degP (d : Nat) : Nat := (floatBits .mul .f64 (floatOfInt .f64 (d : Int)) 4614256656552045848).getD 0
def degX (d : Nat) : Nat := (floatBits .quo .f64 (degP d) 4640537203540230144).getD 0
def degS (d : Nat) : Nat := if d = 0 then 0 else ((sin0V (degX d)).orElse fun _ => (sin1V (degX d)).orElse fun _ => sin2V (degX d)).getD 0
def degM (d : Nat) : Nat := (floatBits .mul .f64 4666723172467343360 (degS d)).getD 0
/-- math.Round. -/
def rndE (b : Nat) : Int := bits .and .u64 ((b : Int) / 4503599627370496) 2047
def rndV (b : Nat) : Nat :=
  if rndE b < 1023 then
    if (rndE b == 1022) = true then (bits .or .u64 (bits .and .u64 (b : Int) 9223372036854775808) 4607182418800017408).toNat else (bits .and .u64 (b : Int) 9223372036854775808).toNat
  else if rndE b < 1075 then (bits .andNot .u64 (IntKind.u64.wrap ((b : Int) + 2251799813685248 / 2 ^ (rndE b - 1023).toNat)) (4503599627370495 / 2 ^ (rndE b - 1023).toNat)).toNat
  else ((b : Nat) : Int).toNat
def degQ (d : Nat) : Nat := rndV (degM d)
set_option maxRecDepth 100000 in
theorem deg_all : ∀ d : Nat, d < 91 → floatBits .mul .f64 (floatOfInt .f64 (d : Int)) 4614256656552045848 = some (degP d) ∧ floatBits .quo .f64 (degP d) 4640537203540230144 = some (degX d) ∧ floatBits .mul .f64 4666723172467343360 (degS d) = some (degM d) ∧ floatToIntVal .f64 (degQ d) .i64 = some (sn d) := by decide +kernel
set_option maxRecDepth 100000 in
theorem deg_sin : ∀ d : Nat, d < 91 → d = 0 ∨ sin0V (degX d) = some (degS d) ∨ sin1V (degX d) = some (degS d) ∨ sin2V (degX d) = some (degS d) := by decide +kernel
set_option maxRecDepth 100000 in
theorem deg_cmp : ∀ d : Nat, d < 91 → d = 0 ∨ fcmp (degX d) 0 .eq = false ∧ fcmp (degX d) (degX d) .eq = true ∧ fcmp (degX d) 0 .lt = false ∧ fcmp (degX d) 4737786807993761792 .gt = false ∧ fcmp (degX d) 4737786807993761792 .eq = false ∧ fcmp (degX d) 9218868437227405311 .gt = false ∧ (bits .andNot .u64 (degX d : Int) 9223372036854775808).toNat = degX d := by decide +kernel
theorem deg_zero : degX 0 = 0 ∧ degM 0 = 0 := by decide +kernel
end Go.Proofs.YtibkadkodblefaaDoor
