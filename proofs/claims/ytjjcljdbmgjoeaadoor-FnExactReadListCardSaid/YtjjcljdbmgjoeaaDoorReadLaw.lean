/- The law of ReadDecimal. -/
import Derived.Test.YtjjcljdbmgjoeaaDoorRead
import Derived.Test.YtjjcljdbmgjoeaaDoorLaid
import Derived.Stop.LaidErr
namespace Go.Proofs.YtjjcljdbmgjoeaaDoor
open Go.RowKit

theorem es_named : Tryd.prog.globalNamed "strconv.ErrSyntax" = some 1 := by kernel_rfl
theorem es_type : (Tryd.prog.globals[1]?).map (·.type) = some 38 := by kernel_rfl
theorem er_named : Tryd.prog.globalNamed "strconv.ErrRange" = some 2 := by kernel_rfl
theorem er_type : (Tryd.prog.globals[2]?).map (·.type) = some 38 := by kernel_rfl
theorem es_cells : Tryd.prog.cellsOf 98 = 1 := by kernel_rfl
theorem str_cells : Tryd.prog.cellsOf 9 = 1 := by kernel_rfl
theorem es_star : "*" ++ "errors.errorString" = "*errors.errorString" := by decide
theorem es_row (u : TypeId) (h : Tryd.prog.typeName? 3 u = some "*errors.errorString") : u = 96 :=
  typeName_ptr_named (nm := "errors.errorString") (by rw [es_star]; kernel_rfl) (by kernel_rfl) (by decide) u (by rw [es_star]; exact h)

/-- an error variable holds an interface value -/
theorem range_var {r : List (String × DataW Unit)} {w : World} (h : laidMet Tryd.prog (("strconv.ErrRange", Rows.laid_strconv_ErrRange) :: r) w) : ∃ p, w.var? Tryd.prog "strconv.ErrRange" = some #[.iface 96 p] := by
  obtain ⟨a, s, h, _⟩ := laid_sentinel h er_named er_type Tryd.underlying38 es_row Tryd.underlying96 Tryd.underlying98 rfl rfl Tryd.underlying9 es_cells str_cells
  exact ⟨_, h⟩
theorem syn_var {r : List (String × DataW Unit)} {w : World} (h : laidMet Tryd.prog (("strconv.ErrSyntax", Rows.laid_strconv_ErrSyntax) :: r) w) : ∃ p, w.var? Tryd.prog "strconv.ErrSyntax" = some #[.iface 96 p] := by
  obtain ⟨a, s, h, _⟩ := laid_sentinel h es_named es_type Tryd.underlying38 es_row Tryd.underlying96 Tryd.underlying98 rfl rfl Tryd.underlying9 es_cells str_cells
  exact ⟨_, h⟩

/-- what the library's variables hold, and hold in each later world -/
structure Vars (w : World) : Prop where
  tab : Lib.TabIs Tryd.prog w "internal/strconv.uint64pow10" .u64 Lib.pow10Tab
  syn : ∃ t p, w.var? Tryd.prog "strconv.ErrSyntax" = some #[.iface t p]
  ran : ∃ t p, w.var? Tryd.prog "strconv.ErrRange" = some #[.iface t p]

theorem var_on {w w' : World} {n : String} {g : Nat} {cs : Array Value} (hg : Tryd.prog.globalNamed n = some g) (h : w.var? Tryd.prog n = some cs) (hb : Below w.heap.size w w') : w'.var? Tryd.prog n = some cs := by
  unfold World.var? at h ⊢
  rw [hg, Option.bind_some] at h ⊢
  have hlt : g < w.heap.size := by
    rcases Nat.lt_or_ge g w.heap.size with h' | h'
    · exact h'
    · simp [Array.getElem?_eq_none h'] at h
  rw [hb.block g hlt]
  exact h

theorem Vars.on {w w' : World} (h : Vars w) (hb : Below w.heap.size w w') : Vars w' := by
  obtain ⟨h1, ⟨t, p, h2⟩, ⟨t', p', h3⟩⟩ := h
  exact ⟨(Lib.tabBelow_of_tabIs h1) _ hb, ⟨t, p, var_on es_named h2 hb⟩, ⟨t', p', var_on er_named h3 hb⟩⟩

theorem read_impl_vars (s : ByteArray) (w : World) (hs : s.size ≤ 281474976710656) (hV : Vars w) :
    Calls Tryd.prog 10 #[.string s] w fun e w' => e = .returned (numOk (rdec s.data.toList)) ∧ Below w.heap.size w w' := by
  obtain ⟨h1, ⟨t, p, h2⟩, ⟨t', p', h3⟩⟩ := hV
  exact read_impl s w hs h1 t t' p p' h2 h3

theorem read_spec' (s : ByteArray) (w : World) (hs : s.size ≤ 281474976710656) :
    Calls Tryd.prog 9 #[.string s] w fun e w' => e = .returned (numOk (rdec s.data.toList)) ∧ Below w.heap.size w w' := by
  have hR := read_spec s w hs
  generalize rdec s.data.toList = p at *
  obtain ⟨a, b⟩ := p
  unfold numOk at *
  go_enter Tryd.func9, Tryd.ntmps9
  go_wp2_with (go_at_call 21; refine hR.mono ?_; rintro e w1 ⟨rfl, hb1⟩; refine Hid.out ?_)
  refine Lib.hid ?_
  have HB : Hid _ := hb1
  clear hb1
  go_wp2
  go_ret2
  exact ⟨rfl, HB.out⟩

theorem read_law (s : ByteArray) (w : World) (hV : Vars w) : Calls Tryd.prog 4 #[.string s] w fun e w' => e = .returned (.bool true) ∧ Below w.heap.size w w' := by
  by_cases hlen : s.size > 1048576
  · go_enter Tryd.func4, Tryd.ntmps4
    go_wp2
    go_ret
    exact ⟨rfl, Below.refl _ _⟩
  · have hR := read_spec' s w (by omega)
    have hI := fun w' (hV' : Vars w') => read_impl_vars s w' (by omega) hV'
    generalize rdec s.data.toList = p at *
    obtain ⟨a, b⟩ := p
    unfold numOk at *
    go_enter Tryd.func4, Tryd.ntmps4
    go_wp2_with (go_at_call 9; refine hR.mono ?_; rintro e w1 ⟨rfl, hb1⟩; refine Hid.out ?_)
    refine Lib.hid ?_
    go_wp2_with (go_at_call 10; refine (hI _ (hV.on hb1)).mono ?_; rintro e w2 ⟨rfl, hb2⟩; refine Hid.out ?_)
    refine Lib.hid ?_
    have HB : Hid (Below w.heap.size w w2) := hb1.trans (hb2.mono hb1.size)
    clear hb1 hb2 hR hI
    cases b
    all_goals go_wp2
    all_goals go_ret
    all_goals exact ⟨rfl, HB.out⟩

theorem vars_of_laid {w : World} (hL : laidMet Tryd.prog Rows.fnExactReadDecimalRow.laid w) : Vars w := by
  have h3 := hL.tail.tail
  obtain ⟨p, hp⟩ := range_var h3.tail
  obtain ⟨q, hq⟩ := syn_var h3.tail.tail
  exact ⟨pow10_tab h3, ⟨_, _, hq⟩, ⟨_, _, hp⟩⟩

theorem read_row (s : ByteArray) (w : World) (_ : s.size ≤ maxLen) (hL : laidMet Tryd.prog Rows.fnExactReadDecimalRow.laid w) (_ : w.ShapedOpen Tryd.prog) : Calls Tryd.prog 4 #[.string s] w fun e w' => e = .returned (.bool true) ∧ Below w.heap.size w w' :=
  read_law s w (vars_of_laid hL)

end Go.Proofs.YtjjcljdbmgjoeaaDoor
