/- The pairs' check, part 4. -/
import Derived.Test.YthmppdaddnnjdaaExpTab
namespace Go.Proofs.Ythmppdaddnnjdaa
open Go.RowKit

theorem okP_52 : (List.range 65).all (okP 52) = true := by decide +kernel
theorem okP_53 : (List.range 65).all (okP 53) = true := by decide +kernel
theorem okP_54 : (List.range 65).all (okP 54) = true := by decide +kernel
theorem okP_55 : (List.range 65).all (okP 55) = true := by decide +kernel
theorem okP_56 : (List.range 65).all (okP 56) = true := by decide +kernel
theorem okP_57 : (List.range 65).all (okP 57) = true := by decide +kernel
theorem okP_58 : (List.range 65).all (okP 58) = true := by decide +kernel
theorem okP_59 : (List.range 65).all (okP 59) = true := by decide +kernel
theorem okP_60 : (List.range 65).all (okP 60) = true := by decide +kernel
theorem okP_61 : (List.range 65).all (okP 61) = true := by decide +kernel
theorem okP_62 : (List.range 65).all (okP 62) = true := by decide +kernel
theorem okP_63 : (List.range 65).all (okP 63) = true := by decide +kernel
theorem okP_64 : (List.range 65).all (okP 64) = true := by decide +kernel
theorem okPs_4 (c d : Nat) (h0 : 52 ≤ c) (h1 : c < 65) (hd : d < 65) : okP c d = true := by
  by_cases h_52 : c = 52
  · subst h_52; exact List.all_eq_true.1 okP_52 d (List.mem_range.2 hd)
  by_cases h_53 : c = 53
  · subst h_53; exact List.all_eq_true.1 okP_53 d (List.mem_range.2 hd)
  by_cases h_54 : c = 54
  · subst h_54; exact List.all_eq_true.1 okP_54 d (List.mem_range.2 hd)
  by_cases h_55 : c = 55
  · subst h_55; exact List.all_eq_true.1 okP_55 d (List.mem_range.2 hd)
  by_cases h_56 : c = 56
  · subst h_56; exact List.all_eq_true.1 okP_56 d (List.mem_range.2 hd)
  by_cases h_57 : c = 57
  · subst h_57; exact List.all_eq_true.1 okP_57 d (List.mem_range.2 hd)
  by_cases h_58 : c = 58
  · subst h_58; exact List.all_eq_true.1 okP_58 d (List.mem_range.2 hd)
  by_cases h_59 : c = 59
  · subst h_59; exact List.all_eq_true.1 okP_59 d (List.mem_range.2 hd)
  by_cases h_60 : c = 60
  · subst h_60; exact List.all_eq_true.1 okP_60 d (List.mem_range.2 hd)
  by_cases h_61 : c = 61
  · subst h_61; exact List.all_eq_true.1 okP_61 d (List.mem_range.2 hd)
  by_cases h_62 : c = 62
  · subst h_62; exact List.all_eq_true.1 okP_62 d (List.mem_range.2 hd)
  by_cases h_63 : c = 63
  · subst h_63; exact List.all_eq_true.1 okP_63 d (List.mem_range.2 hd)
  by_cases h_64 : c = 64
  · subst h_64; exact List.all_eq_true.1 okP_64 d (List.mem_range.2 hd)
  omega

end Go.Proofs.Ythmppdaddnnjdaa
