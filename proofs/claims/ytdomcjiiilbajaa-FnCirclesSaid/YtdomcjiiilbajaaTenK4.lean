/- A part of the table of tenths of decibels, checked. -/
import Derived.Test.YtdomcjiiilbajaaTenTab
namespace Go.Proofs.Ytdomcjiiilbajaa
set_option maxRecDepth 100000
theorem tenK48 : chkN 6045 228 = true := by decide +kernel
theorem tenK49 : chkN 6273 242 = true := by decide +kernel
theorem tenK50 : chkN 6515 243 = true := by decide +kernel
theorem tenK51 : chkN 6758 262 = true := by decide +kernel
theorem tenK52 : chkN 7020 278 = true := by decide +kernel
theorem tenK53 : chkN 7298 273 = true := by decide +kernel
theorem tenK54 : chkN 7571 292 = true := by decide +kernel
theorem tenK55 : chkN 7863 305 = true := by decide +kernel
theorem tenK56 : chkN 8168 315 = true := by decide +kernel
theorem tenK57 : chkN 8483 330 = true := by decide +kernel
theorem tenK58 : chkN 8813 348 = true := by decide +kernel
theorem tenK59 : chkN 9161 361 = true := by decide +kernel
end Go.Proofs.Ytdomcjiiilbajaa
