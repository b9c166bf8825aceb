/- The phasors checked, part 3. -/
import Derived.Test.YtdomcjiiilbajaaCirTab
namespace Go.Proofs.Ytdomcjiiilbajaa
open Go.RowKit

theorem okY_384 : (List.range' 384 16).all okY = true := by decide +kernel
theorem okY_400 : (List.range' 400 16).all okY = true := by decide +kernel
theorem okY_416 : (List.range' 416 16).all okY = true := by decide +kernel
theorem okY_432 : (List.range' 432 16).all okY = true := by decide +kernel
theorem okY_448 : (List.range' 448 16).all okY = true := by decide +kernel
theorem okY_464 : (List.range' 464 16).all okY = true := by decide +kernel
theorem okY_480 : (List.range' 480 16).all okY = true := by decide +kernel
theorem okY_496 : (List.range' 496 15).all okY = true := by decide +kernel
theorem okY_all384 (k : Nat) (h0 : 384 ≤ k) (h : k < 511) : okY k = true := by
  by_cases h_384 : k < 400
  · exact List.all_eq_true.1 okY_384 k (List.mem_range'_1.2 (by omega))
  by_cases h_400 : k < 416
  · exact List.all_eq_true.1 okY_400 k (List.mem_range'_1.2 (by omega))
  by_cases h_416 : k < 432
  · exact List.all_eq_true.1 okY_416 k (List.mem_range'_1.2 (by omega))
  by_cases h_432 : k < 448
  · exact List.all_eq_true.1 okY_432 k (List.mem_range'_1.2 (by omega))
  by_cases h_448 : k < 464
  · exact List.all_eq_true.1 okY_448 k (List.mem_range'_1.2 (by omega))
  by_cases h_464 : k < 480
  · exact List.all_eq_true.1 okY_464 k (List.mem_range'_1.2 (by omega))
  by_cases h_480 : k < 496
  · exact List.all_eq_true.1 okY_480 k (List.mem_range'_1.2 (by omega))
  exact List.all_eq_true.1 okY_496 k (List.mem_range'_1.2 (by omega))

end Go.Proofs.Ytdomcjiiilbajaa
