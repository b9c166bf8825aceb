/- The phasors checked, part 2. -/
import Derived.Test.YtdomcjiiilbajaaCirTab
namespace Go.Proofs.Ytdomcjiiilbajaa
open Go.RowKit

theorem okY_256 : (List.range' 256 16).all okY = true := by decide +kernel
theorem okY_272 : (List.range' 272 16).all okY = true := by decide +kernel
theorem okY_288 : (List.range' 288 16).all okY = true := by decide +kernel
theorem okY_304 : (List.range' 304 16).all okY = true := by decide +kernel
theorem okY_320 : (List.range' 320 16).all okY = true := by decide +kernel
theorem okY_336 : (List.range' 336 16).all okY = true := by decide +kernel
theorem okY_352 : (List.range' 352 16).all okY = true := by decide +kernel
theorem okY_368 : (List.range' 368 16).all okY = true := by decide +kernel
theorem okY_all256 (k : Nat) (h0 : 256 ≤ k) (h : k < 384) : okY k = true := by
  by_cases h_256 : k < 272
  · exact List.all_eq_true.1 okY_256 k (List.mem_range'_1.2 (by omega))
  by_cases h_272 : k < 288
  · exact List.all_eq_true.1 okY_272 k (List.mem_range'_1.2 (by omega))
  by_cases h_288 : k < 304
  · exact List.all_eq_true.1 okY_288 k (List.mem_range'_1.2 (by omega))
  by_cases h_304 : k < 320
  · exact List.all_eq_true.1 okY_304 k (List.mem_range'_1.2 (by omega))
  by_cases h_320 : k < 336
  · exact List.all_eq_true.1 okY_320 k (List.mem_range'_1.2 (by omega))
  by_cases h_336 : k < 352
  · exact List.all_eq_true.1 okY_336 k (List.mem_range'_1.2 (by omega))
  by_cases h_352 : k < 368
  · exact List.all_eq_true.1 okY_352 k (List.mem_range'_1.2 (by omega))
  exact List.all_eq_true.1 okY_368 k (List.mem_range'_1.2 (by omega))

end Go.Proofs.Ytdomcjiiilbajaa
