/- The law of Decimal under what its row lists. -/
import Derived.Test.YtjjcljdbmgjoeaaDoorDecLaw
import Derived.Test.YtjjcljdbmgjoeaaDoorLaid
namespace Go.Proofs.YtjjcljdbmgjoeaaDoor
open Go.RowKit

theorem decimal_row (n : Int) (w : World) (hw : (Lit.int .i64 n).wf = true) (hL : laidMet Tryd.prog Rows.fnExactDecimalRow.laid w) (_ : w.ShapedOpen Tryd.prog) : Calls Tryd.prog 3 #[.int .i64 n] w fun e w' => e = .returned (.bool true) ∧ Below w.heap.size w w' :=
  decimal_law n w hw (pow10_tab hL.tail.tail)

end Go.Proofs.YtjjcljdbmgjoeaaDoor
