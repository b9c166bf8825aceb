/- The angles and powers checked. -/
import Derived.Test.YtdomcjiiilbajaaCirTab
namespace Go.Proofs.Ytdomcjiiilbajaa
open Go.RowKit

theorem okA_0 : (List.range' 0 16).all okA = true := by decide +kernel
theorem okA_16 : (List.range' 16 16).all okA = true := by decide +kernel
theorem okA_32 : (List.range' 32 16).all okA = true := by decide +kernel
theorem okA_48 : (List.range' 48 16).all okA = true := by decide +kernel
theorem okA_all0 (k : Nat) (h0 : 0 ≤ k) (h : k < 64) : okA k = true := by
  by_cases h_0 : k < 16
  · exact List.all_eq_true.1 okA_0 k (List.mem_range'_1.2 (by omega))
  by_cases h_16 : k < 32
  · exact List.all_eq_true.1 okA_16 k (List.mem_range'_1.2 (by omega))
  by_cases h_32 : k < 48
  · exact List.all_eq_true.1 okA_32 k (List.mem_range'_1.2 (by omega))
  exact List.all_eq_true.1 okA_48 k (List.mem_range'_1.2 (by omega))
theorem okT_0 : (List.range' 0 32).all okT = true := by decide +kernel
theorem okT_32 : (List.range' 32 32).all okT = true := by decide +kernel
theorem okT_64 : (List.range' 64 32).all okT = true := by decide +kernel
theorem okT_96 : (List.range' 96 32).all okT = true := by decide +kernel
theorem okT_128 : (List.range' 128 32).all okT = true := by decide +kernel
theorem okT_160 : (List.range' 160 32).all okT = true := by decide +kernel
theorem okT_192 : (List.range' 192 32).all okT = true := by decide +kernel
theorem okT_224 : (List.range' 224 32).all okT = true := by decide +kernel
theorem okT_all0 (k : Nat) (h0 : 0 ≤ k) (h : k < 256) : okT k = true := by
  by_cases h_0 : k < 32
  · exact List.all_eq_true.1 okT_0 k (List.mem_range'_1.2 (by omega))
  by_cases h_32 : k < 64
  · exact List.all_eq_true.1 okT_32 k (List.mem_range'_1.2 (by omega))
  by_cases h_64 : k < 96
  · exact List.all_eq_true.1 okT_64 k (List.mem_range'_1.2 (by omega))
  by_cases h_96 : k < 128
  · exact List.all_eq_true.1 okT_96 k (List.mem_range'_1.2 (by omega))
  by_cases h_128 : k < 160
  · exact List.all_eq_true.1 okT_128 k (List.mem_range'_1.2 (by omega))
  by_cases h_160 : k < 192
  · exact List.all_eq_true.1 okT_160 k (List.mem_range'_1.2 (by omega))
  by_cases h_192 : k < 224
  · exact List.all_eq_true.1 okT_192 k (List.mem_range'_1.2 (by omega))
  exact List.all_eq_true.1 okT_224 k (List.mem_range'_1.2 (by omega))

end Go.Proofs.Ytdomcjiiilbajaa
