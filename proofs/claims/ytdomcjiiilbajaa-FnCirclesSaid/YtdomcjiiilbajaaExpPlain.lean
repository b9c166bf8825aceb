/- Plain words: what the exponential of a multiple of an eighth comes to, step by step; none: a step is a NaN. -/
import Derived.Test.YtdomcjiiilbajaaLogPlain
namespace Go.Proofs.Ytdomcjiiilbajaa
open Go.RowKit

/-- one step of the series: 1 + t p / k -/
def eStepO (t p : Nat) (k : Nat) : Option Nat := (floatBits .mul .f64 t p).bind fun a => (floatBits .quo .f64 a (floatOfInt .f64 (k : Int))).bind fun b => floatBits .add .f64 4607182418800017408 b
/-- the series from k down to 1 -/
def ePO (t : Nat) : Nat → Nat → Option Nat
  | p, 0 => some p
  | p, k + 1 => (eStepO t p (k + 1)).bind fun q => ePO t q k
/-- n squarings -/
def eSO : Nat → Nat → Option Nat
  | p, 0 => some p
  | p, n + 1 => (floatBits .mul .f64 p p).bind fun q => eSO q n
/-- a narrowing that is no overflow -/
def narO (b : Nat) : Option Nat :=
  match FloatKind.f64.decode b with
  | .number sg m e => if (FloatKind.f32.decode (FloatKind.f32.encode (.number sg m e))).isInfinity then none else some (FloatKind.f32.encode (.number sg m e))
  | _ => none
def expO (z : Nat) : Option Nat := (floatBits .quo .f64 (Flt.W z) 4643211215818981376).bind fun t => (ePO t 4607182418800017408 12).bind fun p => (eSO p 8).bind narO
def gapO (a b : Nat) : Option Nat := if FloatKind.f64.format.order a b == some .lt then floatBits .sub .f64 b a else floatBits .sub .f64 a b
/-- the multiple m - 64 of an eighth -/
def zO (m : Nat) : Option Nat := floatBits .quo .f32 (floatOfInt .f32 ((m : Int) - 64)) 1090519040
end Go.Proofs.Ytdomcjiiilbajaa
