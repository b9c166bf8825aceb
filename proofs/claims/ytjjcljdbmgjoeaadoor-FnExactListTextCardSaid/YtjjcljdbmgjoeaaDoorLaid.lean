/- What the listed variables give a walk: the table of the powers of ten. -/
import Derived.Test.YtjjcljdbmgjoeaaDoorProg
import Derived.Test.YtjjcljdbmgjoeaaDoorRows
import Derived.Lib.LaidTab
import Derived.Lib.AppendIntMem
import Derived.Stop.LaidErr
namespace Go.Proofs.YtjjcljdbmgjoeaaDoor
open Go.RowKit

theorem pow10_named : Tryd.prog.globalNamed "internal/strconv.uint64pow10" = some 0 := by kernel_rfl
theorem pow10_type : (Tryd.prog.globals[0]?).map (·.type) = some 73 := by kernel_rfl
theorem pow10_cells : Tryd.prog.cellsOf 73 = 20 := by kernel_rfl
theorem u64_cells : Tryd.prog.cellsOf 55 = 1 := by kernel_rfl
theorem pow10_tab {r : List (String × DataW Unit)} {w : World} (h : laidMet Tryd.prog (("internal/strconv.uint64pow10", Rows.laid_internal_strconv_uint64pow10) :: r) w) : Lib.TabIs Tryd.prog w "internal/strconv.uint64pow10" .u64 Lib.pow10Tab :=
  Lib.tabIs_of_head pow10_named pow10_type Tryd.underlying73 Tryd.underlying55 u64_cells pow10_cells (rest := r) h

end Go.Proofs.YtjjcljdbmgjoeaaDoor
