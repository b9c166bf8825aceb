/- What the listed variables give a walk: the table of trailing zeros. -/
import Derived.Test.YtlhhedmammjieaaDoorHex
import Derived.Test.YtlhhedmammjieaaDoorRows
import Derived.Lib.LaidTab
import Derived.Stop.LaidErr
namespace Go.Proofs.YtlhhedmammjieaaDoor
open Go.RowKit

def db64 : List Int := [0, 1, 56, 2, 57, 49, 28, 3, 61, 58, 42, 50, 38, 29, 17, 4, 62, 47, 59, 36, 45, 43, 51, 22, 53, 39, 33, 30, 24, 18, 12, 5, 63, 55, 48, 27, 60, 41, 37, 16, 46, 35, 44, 21, 52, 32, 23, 11, 54, 26, 40, 15, 34, 20, 31, 10, 25, 14, 19, 9, 13, 8, 7, 6]
theorem db64_named : Tryd.prog.globalNamed "math/bits.deBruijn64tab" = some 8 := by kernel_rfl
theorem db64_type : (Tryd.prog.globals[8]?).map (·.type) = some 125 := by kernel_rfl
theorem db64_cells : Tryd.prog.cellsOf 125 = 64 := by kernel_rfl
theorem u8_cells : Tryd.prog.cellsOf 5 = 1 := by kernel_rfl
theorem tz_of_laid {r : List (String × DataW Unit)} {w : World} (h : laidMet Tryd.prog (("math/bits.deBruijn64tab", Rows.laid_math_bits_deBruijn64tab) :: r) w) : Tz w := by
  have ht : Lib.TabIs Tryd.prog w "math/bits.deBruijn64tab" .u8 db64 :=
    Lib.tabIs_of_head db64_named db64_type Tryd.underlying125 Tryd.underlying5 u8_cells db64_cells (rest := r) h
  exact ht.cell db64_named 15 (by decide)

end Go.Proofs.YtlhhedmammjieaaDoor
