/- The products checked, part 3. -/
import Derived.Test.YtdomcjiiilbajaaCirTab
namespace Go.Proofs.Ytdomcjiiilbajaa
open Go.RowKit

theorem okM_48 : (List.range 64).all (okM 48) = true := by decide +kernel
theorem okM_49 : (List.range 64).all (okM 49) = true := by decide +kernel
theorem okM_50 : (List.range 64).all (okM 50) = true := by decide +kernel
theorem okM_51 : (List.range 64).all (okM 51) = true := by decide +kernel
theorem okM_52 : (List.range 64).all (okM 52) = true := by decide +kernel
theorem okM_53 : (List.range 64).all (okM 53) = true := by decide +kernel
theorem okM_54 : (List.range 64).all (okM 54) = true := by decide +kernel
theorem okM_55 : (List.range 64).all (okM 55) = true := by decide +kernel
theorem okM_56 : (List.range 64).all (okM 56) = true := by decide +kernel
theorem okM_57 : (List.range 64).all (okM 57) = true := by decide +kernel
theorem okM_58 : (List.range 64).all (okM 58) = true := by decide +kernel
theorem okM_59 : (List.range 64).all (okM 59) = true := by decide +kernel
theorem okM_60 : (List.range 64).all (okM 60) = true := by decide +kernel
theorem okM_61 : (List.range 64).all (okM 61) = true := by decide +kernel
theorem okM_62 : (List.range 64).all (okM 62) = true := by decide +kernel
theorem okM_63 : (List.range 64).all (okM 63) = true := by decide +kernel
theorem okM_all3 (i j : Nat) (h0 : 48 ≤ i) (h : i < 64) (hj : j < 64) : okM i j = true := by
  by_cases h_48 : i = 48
  · subst h_48; exact List.all_eq_true.1 okM_48 j (List.mem_range.2 hj)
  by_cases h_49 : i = 49
  · subst h_49; exact List.all_eq_true.1 okM_49 j (List.mem_range.2 hj)
  by_cases h_50 : i = 50
  · subst h_50; exact List.all_eq_true.1 okM_50 j (List.mem_range.2 hj)
  by_cases h_51 : i = 51
  · subst h_51; exact List.all_eq_true.1 okM_51 j (List.mem_range.2 hj)
  by_cases h_52 : i = 52
  · subst h_52; exact List.all_eq_true.1 okM_52 j (List.mem_range.2 hj)
  by_cases h_53 : i = 53
  · subst h_53; exact List.all_eq_true.1 okM_53 j (List.mem_range.2 hj)
  by_cases h_54 : i = 54
  · subst h_54; exact List.all_eq_true.1 okM_54 j (List.mem_range.2 hj)
  by_cases h_55 : i = 55
  · subst h_55; exact List.all_eq_true.1 okM_55 j (List.mem_range.2 hj)
  by_cases h_56 : i = 56
  · subst h_56; exact List.all_eq_true.1 okM_56 j (List.mem_range.2 hj)
  by_cases h_57 : i = 57
  · subst h_57; exact List.all_eq_true.1 okM_57 j (List.mem_range.2 hj)
  by_cases h_58 : i = 58
  · subst h_58; exact List.all_eq_true.1 okM_58 j (List.mem_range.2 hj)
  by_cases h_59 : i = 59
  · subst h_59; exact List.all_eq_true.1 okM_59 j (List.mem_range.2 hj)
  by_cases h_60 : i = 60
  · subst h_60; exact List.all_eq_true.1 okM_60 j (List.mem_range.2 hj)
  by_cases h_61 : i = 61
  · subst h_61; exact List.all_eq_true.1 okM_61 j (List.mem_range.2 hj)
  by_cases h_62 : i = 62
  · subst h_62; exact List.all_eq_true.1 okM_62 j (List.mem_range.2 hj)
  by_cases h_63 : i = 63
  · subst h_63; exact List.all_eq_true.1 okM_63 j (List.mem_range.2 hj)
  omega

end Go.Proofs.Ytdomcjiiilbajaa
