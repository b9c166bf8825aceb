/- The pairs' check, part 2. -/
import Derived.Test.YthmppdaddnnjdaaExpTab
namespace Go.Proofs.Ythmppdaddnnjdaa
open Go.RowKit

theorem okP_26 : (List.range 65).all (okP 26) = true := by decide +kernel
theorem okP_27 : (List.range 65).all (okP 27) = true := by decide +kernel
theorem okP_28 : (List.range 65).all (okP 28) = true := by decide +kernel
theorem okP_29 : (List.range 65).all (okP 29) = true := by decide +kernel
theorem okP_30 : (List.range 65).all (okP 30) = true := by decide +kernel
theorem okP_31 : (List.range 65).all (okP 31) = true := by decide +kernel
theorem okP_32 : (List.range 65).all (okP 32) = true := by decide +kernel
theorem okP_33 : (List.range 65).all (okP 33) = true := by decide +kernel
theorem okP_34 : (List.range 65).all (okP 34) = true := by decide +kernel
theorem okP_35 : (List.range 65).all (okP 35) = true := by decide +kernel
theorem okP_36 : (List.range 65).all (okP 36) = true := by decide +kernel
theorem okP_37 : (List.range 65).all (okP 37) = true := by decide +kernel
theorem okP_38 : (List.range 65).all (okP 38) = true := by decide +kernel
theorem okPs_2 (c d : Nat) (h0 : 26 ≤ c) (h1 : c < 39) (hd : d < 65) : okP c d = true := by
  by_cases h_26 : c = 26
  · subst h_26; exact List.all_eq_true.1 okP_26 d (List.mem_range.2 hd)
  by_cases h_27 : c = 27
  · subst h_27; exact List.all_eq_true.1 okP_27 d (List.mem_range.2 hd)
  by_cases h_28 : c = 28
  · subst h_28; exact List.all_eq_true.1 okP_28 d (List.mem_range.2 hd)
  by_cases h_29 : c = 29
  · subst h_29; exact List.all_eq_true.1 okP_29 d (List.mem_range.2 hd)
  by_cases h_30 : c = 30
  · subst h_30; exact List.all_eq_true.1 okP_30 d (List.mem_range.2 hd)
  by_cases h_31 : c = 31
  · subst h_31; exact List.all_eq_true.1 okP_31 d (List.mem_range.2 hd)
  by_cases h_32 : c = 32
  · subst h_32; exact List.all_eq_true.1 okP_32 d (List.mem_range.2 hd)
  by_cases h_33 : c = 33
  · subst h_33; exact List.all_eq_true.1 okP_33 d (List.mem_range.2 hd)
  by_cases h_34 : c = 34
  · subst h_34; exact List.all_eq_true.1 okP_34 d (List.mem_range.2 hd)
  by_cases h_35 : c = 35
  · subst h_35; exact List.all_eq_true.1 okP_35 d (List.mem_range.2 hd)
  by_cases h_36 : c = 36
  · subst h_36; exact List.all_eq_true.1 okP_36 d (List.mem_range.2 hd)
  by_cases h_37 : c = 37
  · subst h_37; exact List.all_eq_true.1 okP_37 d (List.mem_range.2 hd)
  by_cases h_38 : c = 38
  · subst h_38; exact List.all_eq_true.1 okP_38 d (List.mem_range.2 hd)
  omega

end Go.Proofs.Ythmppdaddnnjdaa
