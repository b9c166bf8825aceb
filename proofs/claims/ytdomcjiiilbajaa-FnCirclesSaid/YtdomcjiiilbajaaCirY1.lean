/- The phasors checked, part 1. -/
import Derived.Test.YtdomcjiiilbajaaCirTab
namespace Go.Proofs.Ytdomcjiiilbajaa
open Go.RowKit

theorem okY_128 : (List.range' 128 16).all okY = true := by decide +kernel
theorem okY_144 : (List.range' 144 16).all okY = true := by decide +kernel
theorem okY_160 : (List.range' 160 16).all okY = true := by decide +kernel
theorem okY_176 : (List.range' 176 16).all okY = true := by decide +kernel
theorem okY_192 : (List.range' 192 16).all okY = true := by decide +kernel
theorem okY_208 : (List.range' 208 16).all okY = true := by decide +kernel
theorem okY_224 : (List.range' 224 16).all okY = true := by decide +kernel
theorem okY_240 : (List.range' 240 16).all okY = true := by decide +kernel
theorem okY_all128 (k : Nat) (h0 : 128 ≤ k) (h : k < 256) : okY k = true := by
  by_cases h_128 : k < 144
  · exact List.all_eq_true.1 okY_128 k (List.mem_range'_1.2 (by omega))
  by_cases h_144 : k < 160
  · exact List.all_eq_true.1 okY_144 k (List.mem_range'_1.2 (by omega))
  by_cases h_160 : k < 176
  · exact List.all_eq_true.1 okY_160 k (List.mem_range'_1.2 (by omega))
  by_cases h_176 : k < 192
  · exact List.all_eq_true.1 okY_176 k (List.mem_range'_1.2 (by omega))
  by_cases h_192 : k < 208
  · exact List.all_eq_true.1 okY_192 k (List.mem_range'_1.2 (by omega))
  by_cases h_208 : k < 224
  · exact List.all_eq_true.1 okY_208 k (List.mem_range'_1.2 (by omega))
  by_cases h_224 : k < 240
  · exact List.all_eq_true.1 okY_224 k (List.mem_range'_1.2 (by omega))
  exact List.all_eq_true.1 okY_240 k (List.mem_range'_1.2 (by omega))

end Go.Proofs.Ytdomcjiiilbajaa
