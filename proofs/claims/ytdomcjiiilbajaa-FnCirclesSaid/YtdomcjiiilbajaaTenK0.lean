/- A part of the table of tenths of decibels, checked. -/
import Derived.Test.YtdomcjiiilbajaaTenTab
namespace Go.Proofs.Ytdomcjiiilbajaa
set_option maxRecDepth 100000
theorem tenK0 : chkN 0 30 = true := by decide +kernel
theorem tenK1 : chkN 30 34 = true := by decide +kernel
theorem tenK2 : chkN 64 35 = true := by decide +kernel
theorem tenK3 : chkN 99 53 = true := by decide +kernel
theorem tenK4 : chkN 152 57 = true := by decide +kernel
theorem tenK5 : chkN 209 58 = true := by decide +kernel
theorem tenK6 : chkN 267 62 = true := by decide +kernel
theorem tenK7 : chkN 329 71 = true := by decide +kernel
theorem tenK8 : chkN 400 72 = true := by decide +kernel
theorem tenK9 : chkN 472 73 = true := by decide +kernel
theorem tenK10 : chkN 545 81 = true := by decide +kernel
theorem tenK11 : chkN 626 83 = true := by decide +kernel
end Go.Proofs.Ytdomcjiiilbajaa
