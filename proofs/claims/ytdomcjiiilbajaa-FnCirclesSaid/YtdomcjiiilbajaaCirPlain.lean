/- Plain words of phasors: their powers, products and angles. -/
import Derived.Test.YtdomcjiiilbajaaExpPlain
import Derived.Test.YtdomcjiiilbajaaPhasor
import Derived.Test.YtdomcjiiilbajaaAngle
namespace Go.Proofs.Ytdomcjiiilbajaa
open Go.RowKit

/-- the number k - 256 of 64ths -/
def yO (k : Nat) : Option Nat := floatBits .quo .f64 (floatOfInt .f64 ((k : Int) - 256)) 4634204016564240384
def powO (re im : Nat) : Option Nat := (floatBits .mul .f64 (Flt.W re) (Flt.W re)).bind fun a => (floatBits .mul .f64 (Flt.W im) (Flt.W im)).bind fun b => (floatBits .add .f64 a b).bind narO
def mulRe (re im re' im' : Nat) : Option Nat := (floatBits .mul .f64 (Flt.W re) (Flt.W re')).bind fun a => (floatBits .mul .f64 (Flt.W im) (Flt.W im')).bind fun b => (floatBits .sub .f64 a b).bind narO
def mulIm (re im re' im' : Nat) : Option Nat := (floatBits .mul .f64 (Flt.W re) (Flt.W im')).bind fun a => (floatBits .mul .f64 (Flt.W im) (Flt.W re')).bind fun b => (floatBits .add .f64 a b).bind narO
def leB (a b : Nat) : Bool := FloatKind.f64.format.order a b == some .lt || FloatKind.f64.format.order a b == some .eq
def nearB (x y : Nat) : Bool := (gapO (Flt.W x) (Flt.W y)).any fun g => leB g 4547007122018943789
def finW (x : Nat) : Bool := decide (x % 2147483648 < 2139095040) && decide (x < 4294967296)

end Go.Proofs.Ytdomcjiiilbajaa
