/- The products checked, part 0. -/
import Derived.Test.YtdomcjiiilbajaaCirTab
namespace Go.Proofs.Ytdomcjiiilbajaa
open Go.RowKit

theorem okM_0 : (List.range 64).all (okM 0) = true := by decide +kernel
theorem okM_1 : (List.range 64).all (okM 1) = true := by decide +kernel
theorem okM_2 : (List.range 64).all (okM 2) = true := by decide +kernel
theorem okM_3 : (List.range 64).all (okM 3) = true := by decide +kernel
theorem okM_4 : (List.range 64).all (okM 4) = true := by decide +kernel
theorem okM_5 : (List.range 64).all (okM 5) = true := by decide +kernel
theorem okM_6 : (List.range 64).all (okM 6) = true := by decide +kernel
theorem okM_7 : (List.range 64).all (okM 7) = true := by decide +kernel
theorem okM_8 : (List.range 64).all (okM 8) = true := by decide +kernel
theorem okM_9 : (List.range 64).all (okM 9) = true := by decide +kernel
theorem okM_10 : (List.range 64).all (okM 10) = true := by decide +kernel
theorem okM_11 : (List.range 64).all (okM 11) = true := by decide +kernel
theorem okM_12 : (List.range 64).all (okM 12) = true := by decide +kernel
theorem okM_13 : (List.range 64).all (okM 13) = true := by decide +kernel
theorem okM_14 : (List.range 64).all (okM 14) = true := by decide +kernel
theorem okM_15 : (List.range 64).all (okM 15) = true := by decide +kernel
theorem okM_all0 (i j : Nat) (h0 : 0 ≤ i) (h : i < 16) (hj : j < 64) : okM i j = true := by
  by_cases h_0 : i = 0
  · subst h_0; exact List.all_eq_true.1 okM_0 j (List.mem_range.2 hj)
  by_cases h_1 : i = 1
  · subst h_1; exact List.all_eq_true.1 okM_1 j (List.mem_range.2 hj)
  by_cases h_2 : i = 2
  · subst h_2; exact List.all_eq_true.1 okM_2 j (List.mem_range.2 hj)
  by_cases h_3 : i = 3
  · subst h_3; exact List.all_eq_true.1 okM_3 j (List.mem_range.2 hj)
  by_cases h_4 : i = 4
  · subst h_4; exact List.all_eq_true.1 okM_4 j (List.mem_range.2 hj)
  by_cases h_5 : i = 5
  · subst h_5; exact List.all_eq_true.1 okM_5 j (List.mem_range.2 hj)
  by_cases h_6 : i = 6
  · subst h_6; exact List.all_eq_true.1 okM_6 j (List.mem_range.2 hj)
  by_cases h_7 : i = 7
  · subst h_7; exact List.all_eq_true.1 okM_7 j (List.mem_range.2 hj)
  by_cases h_8 : i = 8
  · subst h_8; exact List.all_eq_true.1 okM_8 j (List.mem_range.2 hj)
  by_cases h_9 : i = 9
  · subst h_9; exact List.all_eq_true.1 okM_9 j (List.mem_range.2 hj)
  by_cases h_10 : i = 10
  · subst h_10; exact List.all_eq_true.1 okM_10 j (List.mem_range.2 hj)
  by_cases h_11 : i = 11
  · subst h_11; exact List.all_eq_true.1 okM_11 j (List.mem_range.2 hj)
  by_cases h_12 : i = 12
  · subst h_12; exact List.all_eq_true.1 okM_12 j (List.mem_range.2 hj)
  by_cases h_13 : i = 13
  · subst h_13; exact List.all_eq_true.1 okM_13 j (List.mem_range.2 hj)
  by_cases h_14 : i = 14
  · subst h_14; exact List.all_eq_true.1 okM_14 j (List.mem_range.2 hj)
  by_cases h_15 : i = 15
  · subst h_15; exact List.all_eq_true.1 okM_15 j (List.mem_range.2 hj)
  omega

end Go.Proofs.Ytdomcjiiilbajaa
