/- A part of the table of tenths of decibels, checked. -/
import Derived.Test.YtdomcjiiilbajaaTenTab
namespace Go.Proofs.Ytdomcjiiilbajaa
set_option maxRecDepth 100000
theorem tenK24 : chkN 1957 129 = true := by decide +kernel
theorem tenK25 : chkN 2086 129 = true := by decide +kernel
theorem tenK26 : chkN 2215 126 = true := by decide +kernel
theorem tenK27 : chkN 2341 134 = true := by decide +kernel
theorem tenK28 : chkN 2475 140 = true := by decide +kernel
theorem tenK29 : chkN 2615 148 = true := by decide +kernel
theorem tenK30 : chkN 2763 140 = true := by decide +kernel
theorem tenK31 : chkN 2903 152 = true := by decide +kernel
theorem tenK32 : chkN 3055 154 = true := by decide +kernel
theorem tenK33 : chkN 3209 153 = true := by decide +kernel
theorem tenK34 : chkN 3362 163 = true := by decide +kernel
theorem tenK35 : chkN 3525 165 = true := by decide +kernel
end Go.Proofs.Ytdomcjiiilbajaa
