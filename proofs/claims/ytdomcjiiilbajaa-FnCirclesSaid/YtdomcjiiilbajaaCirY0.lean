/- The phasors checked, part 0. -/
import Derived.Test.YtdomcjiiilbajaaCirTab
namespace Go.Proofs.Ytdomcjiiilbajaa
open Go.RowKit

theorem okY_0 : (List.range' 0 16).all okY = true := by decide +kernel
theorem okY_16 : (List.range' 16 16).all okY = true := by decide +kernel
theorem okY_32 : (List.range' 32 16).all okY = true := by decide +kernel
theorem okY_48 : (List.range' 48 16).all okY = true := by decide +kernel
theorem okY_64 : (List.range' 64 16).all okY = true := by decide +kernel
theorem okY_80 : (List.range' 80 16).all okY = true := by decide +kernel
theorem okY_96 : (List.range' 96 16).all okY = true := by decide +kernel
theorem okY_112 : (List.range' 112 16).all okY = true := by decide +kernel
theorem okY_all0 (k : Nat) (h0 : 0 ≤ k) (h : k < 128) : okY k = true := by
  by_cases h_0 : k < 16
  · exact List.all_eq_true.1 okY_0 k (List.mem_range'_1.2 (by omega))
  by_cases h_16 : k < 32
  · exact List.all_eq_true.1 okY_16 k (List.mem_range'_1.2 (by omega))
  by_cases h_32 : k < 48
  · exact List.all_eq_true.1 okY_32 k (List.mem_range'_1.2 (by omega))
  by_cases h_48 : k < 64
  · exact List.all_eq_true.1 okY_48 k (List.mem_range'_1.2 (by omega))
  by_cases h_64 : k < 80
  · exact List.all_eq_true.1 okY_64 k (List.mem_range'_1.2 (by omega))
  by_cases h_80 : k < 96
  · exact List.all_eq_true.1 okY_80 k (List.mem_range'_1.2 (by omega))
  by_cases h_96 : k < 112
  · exact List.all_eq_true.1 okY_96 k (List.mem_range'_1.2 (by omega))
  exact List.all_eq_true.1 okY_112 k (List.mem_range'_1.2 (by omega))

end Go.Proofs.Ytdomcjiiilbajaa
