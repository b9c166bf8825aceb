/- A part of the table of tenths of decibels, checked. -/
import Derived.Test.YtdomcjiiilbajaaTenTab
namespace Go.Proofs.Ytdomcjiiilbajaa
set_option maxRecDepth 100000
theorem tenK12 : chkN 709 88 = true := by decide +kernel
theorem tenK13 : chkN 797 88 = true := by decide +kernel
theorem tenK14 : chkN 885 93 = true := by decide +kernel
theorem tenK15 : chkN 978 95 = true := by decide +kernel
theorem tenK16 : chkN 1073 100 = true := by decide +kernel
theorem tenK17 : chkN 1173 105 = true := by decide +kernel
theorem tenK18 : chkN 1278 102 = true := by decide +kernel
theorem tenK19 : chkN 1380 108 = true := by decide +kernel
theorem tenK20 : chkN 1488 111 = true := by decide +kernel
theorem tenK21 : chkN 1599 116 = true := by decide +kernel
theorem tenK22 : chkN 1715 123 = true := by decide +kernel
theorem tenK23 : chkN 1838 119 = true := by decide +kernel
end Go.Proofs.Ytdomcjiiilbajaa
