/- A part of the table of tenths of decibels, checked. -/
import Derived.Test.YtdomcjiiilbajaaTenTab
namespace Go.Proofs.Ytdomcjiiilbajaa
set_option maxRecDepth 100000
theorem tenK60 : chkN 9522 401 = true := by decide +kernel
theorem tenK61 : chkN 9923 420 = true := by decide +kernel
theorem tenK62 : chkN 10343 420 = true := by decide +kernel
theorem tenK63 : chkN 10763 476 = true := by decide +kernel
theorem tenK64 : chkN 11239 507 = true := by decide +kernel
theorem tenK65 : chkN 11746 561 = true := by decide +kernel
theorem tenK66 : chkN 12307 635 = true := by decide +kernel
theorem tenK67 : chkN 12942 665 = true := by decide +kernel
theorem tenK68 : chkN 13607 819 = true := by decide +kernel
theorem tenK69 : chkN 14426 978 = true := by decide +kernel
theorem tenK70 : chkN 15404 1323 = true := by decide +kernel
theorem tenK71 : chkN 16727 3273 = true := by decide +kernel
end Go.Proofs.Ytdomcjiiilbajaa
