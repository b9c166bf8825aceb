/- The products checked, part 1. -/
import Derived.Test.YtdomcjiiilbajaaCirTab
namespace Go.Proofs.Ytdomcjiiilbajaa
open Go.RowKit

theorem okM_16 : (List.range 64).all (okM 16) = true := by decide +kernel
theorem okM_17 : (List.range 64).all (okM 17) = true := by decide +kernel
theorem okM_18 : (List.range 64).all (okM 18) = true := by decide +kernel
theorem okM_19 : (List.range 64).all (okM 19) = true := by decide +kernel
theorem okM_20 : (List.range 64).all (okM 20) = true := by decide +kernel
theorem okM_21 : (List.range 64).all (okM 21) = true := by decide +kernel
theorem okM_22 : (List.range 64).all (okM 22) = true := by decide +kernel
theorem okM_23 : (List.range 64).all (okM 23) = true := by decide +kernel
theorem okM_24 : (List.range 64).all (okM 24) = true := by decide +kernel
theorem okM_25 : (List.range 64).all (okM 25) = true := by decide +kernel
theorem okM_26 : (List.range 64).all (okM 26) = true := by decide +kernel
theorem okM_27 : (List.range 64).all (okM 27) = true := by decide +kernel
theorem okM_28 : (List.range 64).all (okM 28) = true := by decide +kernel
theorem okM_29 : (List.range 64).all (okM 29) = true := by decide +kernel
theorem okM_30 : (List.range 64).all (okM 30) = true := by decide +kernel
theorem okM_31 : (List.range 64).all (okM 31) = true := by decide +kernel
theorem okM_all1 (i j : Nat) (h0 : 16 ≤ i) (h : i < 32) (hj : j < 64) : okM i j = true := by
  by_cases h_16 : i = 16
  · subst h_16; exact List.all_eq_true.1 okM_16 j (List.mem_range.2 hj)
  by_cases h_17 : i = 17
  · subst h_17; exact List.all_eq_true.1 okM_17 j (List.mem_range.2 hj)
  by_cases h_18 : i = 18
  · subst h_18; exact List.all_eq_true.1 okM_18 j (List.mem_range.2 hj)
  by_cases h_19 : i = 19
  · subst h_19; exact List.all_eq_true.1 okM_19 j (List.mem_range.2 hj)
  by_cases h_20 : i = 20
  · subst h_20; exact List.all_eq_true.1 okM_20 j (List.mem_range.2 hj)
  by_cases h_21 : i = 21
  · subst h_21; exact List.all_eq_true.1 okM_21 j (List.mem_range.2 hj)
  by_cases h_22 : i = 22
  · subst h_22; exact List.all_eq_true.1 okM_22 j (List.mem_range.2 hj)
  by_cases h_23 : i = 23
  · subst h_23; exact List.all_eq_true.1 okM_23 j (List.mem_range.2 hj)
  by_cases h_24 : i = 24
  · subst h_24; exact List.all_eq_true.1 okM_24 j (List.mem_range.2 hj)
  by_cases h_25 : i = 25
  · subst h_25; exact List.all_eq_true.1 okM_25 j (List.mem_range.2 hj)
  by_cases h_26 : i = 26
  · subst h_26; exact List.all_eq_true.1 okM_26 j (List.mem_range.2 hj)
  by_cases h_27 : i = 27
  · subst h_27; exact List.all_eq_true.1 okM_27 j (List.mem_range.2 hj)
  by_cases h_28 : i = 28
  · subst h_28; exact List.all_eq_true.1 okM_28 j (List.mem_range.2 hj)
  by_cases h_29 : i = 29
  · subst h_29; exact List.all_eq_true.1 okM_29 j (List.mem_range.2 hj)
  by_cases h_30 : i = 30
  · subst h_30; exact List.all_eq_true.1 okM_30 j (List.mem_range.2 hj)
  by_cases h_31 : i = 31
  · subst h_31; exact List.all_eq_true.1 okM_31 j (List.mem_range.2 hj)
  omega

end Go.Proofs.Ytdomcjiiilbajaa
