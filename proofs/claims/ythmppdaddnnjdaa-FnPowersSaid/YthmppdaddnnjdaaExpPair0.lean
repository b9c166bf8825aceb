/- The pairs' check, part 0. -/
import Derived.Test.YthmppdaddnnjdaaExpTab
namespace Go.Proofs.Ythmppdaddnnjdaa
open Go.RowKit

theorem okP_0 : (List.range 65).all (okP 0) = true := by decide +kernel
theorem okP_1 : (List.range 65).all (okP 1) = true := by decide +kernel
theorem okP_2 : (List.range 65).all (okP 2) = true := by decide +kernel
theorem okP_3 : (List.range 65).all (okP 3) = true := by decide +kernel
theorem okP_4 : (List.range 65).all (okP 4) = true := by decide +kernel
theorem okP_5 : (List.range 65).all (okP 5) = true := by decide +kernel
theorem okP_6 : (List.range 65).all (okP 6) = true := by decide +kernel
theorem okP_7 : (List.range 65).all (okP 7) = true := by decide +kernel
theorem okP_8 : (List.range 65).all (okP 8) = true := by decide +kernel
theorem okP_9 : (List.range 65).all (okP 9) = true := by decide +kernel
theorem okP_10 : (List.range 65).all (okP 10) = true := by decide +kernel
theorem okP_11 : (List.range 65).all (okP 11) = true := by decide +kernel
theorem okP_12 : (List.range 65).all (okP 12) = true := by decide +kernel
theorem okPs_0 (c d : Nat) (h0 : 0 ≤ c) (h1 : c < 13) (hd : d < 65) : okP c d = true := by
  by_cases h_0 : c = 0
  · subst h_0; exact List.all_eq_true.1 okP_0 d (List.mem_range.2 hd)
  by_cases h_1 : c = 1
  · subst h_1; exact List.all_eq_true.1 okP_1 d (List.mem_range.2 hd)
  by_cases h_2 : c = 2
  · subst h_2; exact List.all_eq_true.1 okP_2 d (List.mem_range.2 hd)
  by_cases h_3 : c = 3
  · subst h_3; exact List.all_eq_true.1 okP_3 d (List.mem_range.2 hd)
  by_cases h_4 : c = 4
  · subst h_4; exact List.all_eq_true.1 okP_4 d (List.mem_range.2 hd)
  by_cases h_5 : c = 5
  · subst h_5; exact List.all_eq_true.1 okP_5 d (List.mem_range.2 hd)
  by_cases h_6 : c = 6
  · subst h_6; exact List.all_eq_true.1 okP_6 d (List.mem_range.2 hd)
  by_cases h_7 : c = 7
  · subst h_7; exact List.all_eq_true.1 okP_7 d (List.mem_range.2 hd)
  by_cases h_8 : c = 8
  · subst h_8; exact List.all_eq_true.1 okP_8 d (List.mem_range.2 hd)
  by_cases h_9 : c = 9
  · subst h_9; exact List.all_eq_true.1 okP_9 d (List.mem_range.2 hd)
  by_cases h_10 : c = 10
  · subst h_10; exact List.all_eq_true.1 okP_10 d (List.mem_range.2 hd)
  by_cases h_11 : c = 11
  · subst h_11; exact List.all_eq_true.1 okP_11 d (List.mem_range.2 hd)
  by_cases h_12 : c = 12
  · subst h_12; exact List.all_eq_true.1 okP_12 d (List.mem_range.2 hd)
  omega

end Go.Proofs.Ythmppdaddnnjdaa
