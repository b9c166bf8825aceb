/- The pairs' check, part 1. -/
import Derived.Test.YthmppdaddnnjdaaExpTab
namespace Go.Proofs.Ythmppdaddnnjdaa
open Go.RowKit

theorem okP_13 : (List.range 65).all (okP 13) = true := by decide +kernel
theorem okP_14 : (List.range 65).all (okP 14) = true := by decide +kernel
theorem okP_15 : (List.range 65).all (okP 15) = true := by decide +kernel
theorem okP_16 : (List.range 65).all (okP 16) = true := by decide +kernel
theorem okP_17 : (List.range 65).all (okP 17) = true := by decide +kernel
theorem okP_18 : (List.range 65).all (okP 18) = true := by decide +kernel
theorem okP_19 : (List.range 65).all (okP 19) = true := by decide +kernel
theorem okP_20 : (List.range 65).all (okP 20) = true := by decide +kernel
theorem okP_21 : (List.range 65).all (okP 21) = true := by decide +kernel
theorem okP_22 : (List.range 65).all (okP 22) = true := by decide +kernel
theorem okP_23 : (List.range 65).all (okP 23) = true := by decide +kernel
theorem okP_24 : (List.range 65).all (okP 24) = true := by decide +kernel
theorem okP_25 : (List.range 65).all (okP 25) = true := by decide +kernel
theorem okPs_1 (c d : Nat) (h0 : 13 ≤ c) (h1 : c < 26) (hd : d < 65) : okP c d = true := by
  by_cases h_13 : c = 13
  · subst h_13; exact List.all_eq_true.1 okP_13 d (List.mem_range.2 hd)
  by_cases h_14 : c = 14
  · subst h_14; exact List.all_eq_true.1 okP_14 d (List.mem_range.2 hd)
  by_cases h_15 : c = 15
  · subst h_15; exact List.all_eq_true.1 okP_15 d (List.mem_range.2 hd)
  by_cases h_16 : c = 16
  · subst h_16; exact List.all_eq_true.1 okP_16 d (List.mem_range.2 hd)
  by_cases h_17 : c = 17
  · subst h_17; exact List.all_eq_true.1 okP_17 d (List.mem_range.2 hd)
  by_cases h_18 : c = 18
  · subst h_18; exact List.all_eq_true.1 okP_18 d (List.mem_range.2 hd)
  by_cases h_19 : c = 19
  · subst h_19; exact List.all_eq_true.1 okP_19 d (List.mem_range.2 hd)
  by_cases h_20 : c = 20
  · subst h_20; exact List.all_eq_true.1 okP_20 d (List.mem_range.2 hd)
  by_cases h_21 : c = 21
  · subst h_21; exact List.all_eq_true.1 okP_21 d (List.mem_range.2 hd)
  by_cases h_22 : c = 22
  · subst h_22; exact List.all_eq_true.1 okP_22 d (List.mem_range.2 hd)
  by_cases h_23 : c = 23
  · subst h_23; exact List.all_eq_true.1 okP_23 d (List.mem_range.2 hd)
  by_cases h_24 : c = 24
  · subst h_24; exact List.all_eq_true.1 okP_24 d (List.mem_range.2 hd)
  by_cases h_25 : c = 25
  · subst h_25; exact List.all_eq_true.1 okP_25 d (List.mem_range.2 hd)
  omega

end Go.Proofs.Ythmppdaddnnjdaa
