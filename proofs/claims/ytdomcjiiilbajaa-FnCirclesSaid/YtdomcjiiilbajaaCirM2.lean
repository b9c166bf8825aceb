/- The products checked, part 2. -/
import Derived.Test.YtdomcjiiilbajaaCirTab
namespace Go.Proofs.Ytdomcjiiilbajaa
open Go.RowKit

theorem okM_32 : (List.range 64).all (okM 32) = true := by decide +kernel
theorem okM_33 : (List.range 64).all (okM 33) = true := by decide +kernel
theorem okM_34 : (List.range 64).all (okM 34) = true := by decide +kernel
theorem okM_35 : (List.range 64).all (okM 35) = true := by decide +kernel
theorem okM_36 : (List.range 64).all (okM 36) = true := by decide +kernel
theorem okM_37 : (List.range 64).all (okM 37) = true := by decide +kernel
theorem okM_38 : (List.range 64).all (okM 38) = true := by decide +kernel
theorem okM_39 : (List.range 64).all (okM 39) = true := by decide +kernel
theorem okM_40 : (List.range 64).all (okM 40) = true := by decide +kernel
theorem okM_41 : (List.range 64).all (okM 41) = true := by decide +kernel
theorem okM_42 : (List.range 64).all (okM 42) = true := by decide +kernel
theorem okM_43 : (List.range 64).all (okM 43) = true := by decide +kernel
theorem okM_44 : (List.range 64).all (okM 44) = true := by decide +kernel
theorem okM_45 : (List.range 64).all (okM 45) = true := by decide +kernel
theorem okM_46 : (List.range 64).all (okM 46) = true := by decide +kernel
theorem okM_47 : (List.range 64).all (okM 47) = true := by decide +kernel
theorem okM_all2 (i j : Nat) (h0 : 32 ≤ i) (h : i < 48) (hj : j < 64) : okM i j = true := by
  by_cases h_32 : i = 32
  · subst h_32; exact List.all_eq_true.1 okM_32 j (List.mem_range.2 hj)
  by_cases h_33 : i = 33
  · subst h_33; exact List.all_eq_true.1 okM_33 j (List.mem_range.2 hj)
  by_cases h_34 : i = 34
  · subst h_34; exact List.all_eq_true.1 okM_34 j (List.mem_range.2 hj)
  by_cases h_35 : i = 35
  · subst h_35; exact List.all_eq_true.1 okM_35 j (List.mem_range.2 hj)
  by_cases h_36 : i = 36
  · subst h_36; exact List.all_eq_true.1 okM_36 j (List.mem_range.2 hj)
  by_cases h_37 : i = 37
  · subst h_37; exact List.all_eq_true.1 okM_37 j (List.mem_range.2 hj)
  by_cases h_38 : i = 38
  · subst h_38; exact List.all_eq_true.1 okM_38 j (List.mem_range.2 hj)
  by_cases h_39 : i = 39
  · subst h_39; exact List.all_eq_true.1 okM_39 j (List.mem_range.2 hj)
  by_cases h_40 : i = 40
  · subst h_40; exact List.all_eq_true.1 okM_40 j (List.mem_range.2 hj)
  by_cases h_41 : i = 41
  · subst h_41; exact List.all_eq_true.1 okM_41 j (List.mem_range.2 hj)
  by_cases h_42 : i = 42
  · subst h_42; exact List.all_eq_true.1 okM_42 j (List.mem_range.2 hj)
  by_cases h_43 : i = 43
  · subst h_43; exact List.all_eq_true.1 okM_43 j (List.mem_range.2 hj)
  by_cases h_44 : i = 44
  · subst h_44; exact List.all_eq_true.1 okM_44 j (List.mem_range.2 hj)
  by_cases h_45 : i = 45
  · subst h_45; exact List.all_eq_true.1 okM_45 j (List.mem_range.2 hj)
  by_cases h_46 : i = 46
  · subst h_46; exact List.all_eq_true.1 okM_46 j (List.mem_range.2 hj)
  by_cases h_47 : i = 47
  · subst h_47; exact List.all_eq_true.1 okM_47 j (List.mem_range.2 hj)
  omega

end Go.Proofs.Ytdomcjiiilbajaa
