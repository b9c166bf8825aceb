/- The pairs' check, part 3. -/
import Derived.Test.YthmppdaddnnjdaaExpTab
namespace Go.Proofs.Ythmppdaddnnjdaa
open Go.RowKit

theorem okP_39 : (List.range 65).all (okP 39) = true := by decide +kernel
theorem okP_40 : (List.range 65).all (okP 40) = true := by decide +kernel
theorem okP_41 : (List.range 65).all (okP 41) = true := by decide +kernel
theorem okP_42 : (List.range 65).all (okP 42) = true := by decide +kernel
theorem okP_43 : (List.range 65).all (okP 43) = true := by decide +kernel
theorem okP_44 : (List.range 65).all (okP 44) = true := by decide +kernel
theorem okP_45 : (List.range 65).all (okP 45) = true := by decide +kernel
theorem okP_46 : (List.range 65).all (okP 46) = true := by decide +kernel
theorem okP_47 : (List.range 65).all (okP 47) = true := by decide +kernel
theorem okP_48 : (List.range 65).all (okP 48) = true := by decide +kernel
theorem okP_49 : (List.range 65).all (okP 49) = true := by decide +kernel
theorem okP_50 : (List.range 65).all (okP 50) = true := by decide +kernel
theorem okP_51 : (List.range 65).all (okP 51) = true := by decide +kernel
theorem okPs_3 (c d : Nat) (h0 : 39 ≤ c) (h1 : c < 52) (hd : d < 65) : okP c d = true := by
  by_cases h_39 : c = 39
  · subst h_39; exact List.all_eq_true.1 okP_39 d (List.mem_range.2 hd)
  by_cases h_40 : c = 40
  · subst h_40; exact List.all_eq_true.1 okP_40 d (List.mem_range.2 hd)
  by_cases h_41 : c = 41
  · subst h_41; exact List.all_eq_true.1 okP_41 d (List.mem_range.2 hd)
  by_cases h_42 : c = 42
  · subst h_42; exact List.all_eq_true.1 okP_42 d (List.mem_range.2 hd)
  by_cases h_43 : c = 43
  · subst h_43; exact List.all_eq_true.1 okP_43 d (List.mem_range.2 hd)
  by_cases h_44 : c = 44
  · subst h_44; exact List.all_eq_true.1 okP_44 d (List.mem_range.2 hd)
  by_cases h_45 : c = 45
  · subst h_45; exact List.all_eq_true.1 okP_45 d (List.mem_range.2 hd)
  by_cases h_46 : c = 46
  · subst h_46; exact List.all_eq_true.1 okP_46 d (List.mem_range.2 hd)
  by_cases h_47 : c = 47
  · subst h_47; exact List.all_eq_true.1 okP_47 d (List.mem_range.2 hd)
  by_cases h_48 : c = 48
  · subst h_48; exact List.all_eq_true.1 okP_48 d (List.mem_range.2 hd)
  by_cases h_49 : c = 49
  · subst h_49; exact List.all_eq_true.1 okP_49 d (List.mem_range.2 hd)
  by_cases h_50 : c = 50
  · subst h_50; exact List.all_eq_true.1 okP_50 d (List.mem_range.2 hd)
  by_cases h_51 : c = 51
  · subst h_51; exact List.all_eq_true.1 okP_51 d (List.mem_range.2 hd)
  omega

end Go.Proofs.Ythmppdaddnnjdaa
