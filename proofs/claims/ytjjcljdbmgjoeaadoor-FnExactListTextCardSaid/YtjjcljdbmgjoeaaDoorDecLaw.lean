/- The law of Decimal: the program's decimal text is the reference's. -/
import Derived.Test.YtjjcljdbmgjoeaaDoorProg
import Derived.Test.YtjjcljdbmgjoeaaDoorRows
import Derived.WalkKit
import Derived.WalkSpells
import Derived.WalkLawsBesides
import Derived.IntWalk
import Derived.Handy
import Derived.Lib.LaidTab
import Derived.Lib.AppendIntMem
import Derived.Test.YtjjcljdbmgjoeaaDoorDec
import Derived.Test.YtjjcljdbmgjoeaaDoorFmt
namespace Go.Proofs.YtjjcljdbmgjoeaaDoor
open Go.RowKit

theorem decimal_spec (n : Int) (w : World) (h0 : -9223372036854775808 ≤ n) (h1 : n ≤ 9223372036854775807) : Calls Tryd.prog 7 #[.int .i64 n] w fun e w' => e = .returned (.string ⟨(Lib.itoa n).toArray⟩) ∧ Below w.heap.size w w' := by
  go_enter Tryd.func7, Tryd.ntmps7
  go_wp2_with (go_at_call 19; refine (dec_any n w h0 h1).mono ?_; rintro e w1 ⟨rfl, hb1⟩; refine Hid.out ?_)
  refine Lib.hid ?_
  go_wp2
  go_ret
  exact ⟨rfl, hb1⟩

theorem decimal_impl (n : Int) (w : World) (h0 : -9223372036854775808 ≤ n) (h1 : n ≤ 9223372036854775807) (htab : Lib.TabIs Tryd.prog w "internal/strconv.uint64pow10" .u64 Lib.pow10Tab) : Calls Tryd.prog 8 #[.int .i64 n] w fun e w' => e = .returned (.string ⟨(Lib.itoa n).toArray⟩) ∧ Below w.heap.size w w' := by
  go_enter Tryd.func8, Tryd.ntmps8
  go_wp2_with (go_at_call 20; refine (Tryd.strconv_FormatInt_10 n h0 h1 w htab).mono ?_; rintro e w1 ⟨rfl, k, os, rfl⟩; refine Hid.out ?_)
  refine Lib.hid ?_
  have HB : Hid (Below w.heap.size w (Sort.grow (w.drewN k) os)) := Lib.below_grow _ w (Nat.le_refl _) k os
  generalize Sort.grow (w.drewN k) os = w1 at *
  go_wp2
  go_ret
  exact ⟨rfl, HB.out⟩

theorem decimal_law (n : Int) (w : World) (hw : (Lit.int .i64 n).wf = true) (htab : Lib.TabIs Tryd.prog w "internal/strconv.uint64pow10" .u64 Lib.pow10Tab) : Calls Tryd.prog 3 #[.int .i64 n] w fun e w' => e = .returned (.bool true) ∧ Below w.heap.size w w' := by
  obtain ⟨h0, h1⟩ : -9223372036854775808 ≤ n ∧ n ≤ 9223372036854775807 := by
    simp [Lit.wf] at hw
    exact hw
  have hT := Lib.tabBelow_of_tabIs htab
  go_enter Tryd.func3, Tryd.ntmps3
  go_wp2_with (go_at_call 7; refine (decimal_spec n w h0 h1).mono ?_; rintro e w1 ⟨rfl, hb1⟩; refine Hid.out ?_)
  refine Lib.hid ?_
  go_wp2_with (go_at_call 8; refine (decimal_impl n w1 h0 h1 (hT.on hb1).here).mono ?_; rintro e w2 ⟨rfl, hb2⟩; refine Hid.out ?_)
  refine Lib.hid ?_
  have HB : Hid (Below w.heap.size w w2) := hb1.trans (hb2.mono hb1.size)
  go_wp2
  go_ret
  exact ⟨rfl, HB.out⟩

end Go.Proofs.YtjjcljdbmgjoeaaDoor
