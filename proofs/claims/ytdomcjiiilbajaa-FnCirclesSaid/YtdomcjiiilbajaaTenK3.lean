/- A part of the table of tenths of decibels, checked. -/
import Derived.Test.YtdomcjiiilbajaaTenTab
namespace Go.Proofs.Ytdomcjiiilbajaa
set_option maxRecDepth 100000
theorem tenK36 : chkN 3690 173 = true := by decide +kernel
theorem tenK37 : chkN 3863 174 = true := by decide +kernel
theorem tenK38 : chkN 4037 177 = true := by decide +kernel
theorem tenK39 : chkN 4214 175 = true := by decide +kernel
theorem tenK40 : chkN 4389 195 = true := by decide +kernel
theorem tenK41 : chkN 4584 196 = true := by decide +kernel
theorem tenK42 : chkN 4780 193 = true := by decide +kernel
theorem tenK43 : chkN 4973 202 = true := by decide +kernel
theorem tenK44 : chkN 5175 219 = true := by decide +kernel
theorem tenK45 : chkN 5394 203 = true := by decide +kernel
theorem tenK46 : chkN 5597 223 = true := by decide +kernel
theorem tenK47 : chkN 5820 225 = true := by decide +kernel
end Go.Proofs.Ytdomcjiiilbajaa
