/- The law of ReadNumbers. -/
import Derived.Test.YtlhhedmammjieaaDoorListG2
import Derived.Test.YtlhhedmammjieaaDoorLaidG
import Derived.HandedShaped
import Derived.Shelf.Vars
namespace Go.Proofs.YtlhhedmammjieaaDoor
open Go.RowKit Opn

theorem list_spec' (s : ByteArray) (w : World) (hs : s.size ≤ 1048576) : Calls Tryd.prog 10 #[.string s] w fun e w' => ∃ v, e = .returned v ∧ ListRes w.heap.size w' (rlist s) v ∧ Below w.heap.size w w' := by
  have hR := list_spec s w hs
  cases hr : rlist s with
  | none =>
    rw [hr] at hR
    go_enter Tryd.func10, Tryd.ntmps10
    go_wp2_with (go_at_call 24; refine hR.mono ?_; rintro e w1 ⟨v, rfl, hres, hb1⟩; obtain rfl : v = _ := hres; refine Hid.out ?_)
    refine Lib.hid ?_
    have HB : Hid _ := hb1
    clear hb1
    go_wp2
    go_ret2
    exact ⟨_, rfl, rfl, HB.out⟩
  | some zs =>
    rw [hr] at hR
    go_enter Tryd.func10, Tryd.ntmps10
    go_wp2_with (go_at_call 24; refine hR.mono ?_; rintro e w1 ⟨v, rfl, hres, hb1⟩; obtain ⟨g, cp, rfl, h1, h2, h3, h4⟩ := hres; have H2 := Lib.hid h2; have HB := Lib.hid hb1; clear h2 hb1; refine Hid.out ?_)
    refine Lib.hid ?_
    go_wp2
    go_ret2
    exact ⟨_, rfl, ⟨g, cp, rfl, h1, H2.out, h3, h4⟩, HB.out⟩

theorem below_drew {B : Nat} {w w' : World} (h : Below B w w') (m : Nat) : Below B w (w'.drewN m) := ⟨h.os, h.tape, h.output, h.size, h.block⟩
theorem row_nilG (w : World) : FRow w (.slice none 0 0) 0 [] := ⟨rfl, Nat.zero_le _, (fun _ h => absurd h (List.not_mem_nil)), .inl ⟨rfl, none, 0, rfl⟩⟩

set_option maxRecDepth 20000 in
set_option maxHeartbeats 2000000 in
theorem readNumbers_none (s : ByteArray) (w : World) (hlen : ¬ s.size > 1048576) (hV : Vars w) (hr : rlist s = none) : Calls Tryd.prog 4 #[.string s] w fun e w' => e = .returned (.bool true) ∧ Below w.heap.size w w' := by
  have hS := list_spec' s w (by omega)
  have hI := fun w0 hV0 => list_impl s w0 (by omega) hV0
  rw [hr] at hS
  simp only [hr] at hI
  clear hr
  go_enter Tryd.func4, Tryd.ntmps4
  go_wp2_with (go_at_call 10; refine hS.mono ?_; rintro e w1 ⟨v, rfl, hres, hb1⟩; obtain rfl : v = _ := hres; refine Hid.out ?_)
  refine Lib.hid ?_
  go_wp2_with (go_at_call 11; refine (hI _ (hV.on hb1)).mono ?_; rintro e w2 ⟨v, rfl, hres, hb2'⟩; obtain rfl : v = _ := hres; refine Hid.out ?_)
  refine Lib.hid ?_
  have hb2 : Below w.heap.size w w2 := hb1.trans (hb2'.mono hb1.size)
  clear hb1 hb2'
  go_wp2_with (go_at_call 9; refine (eqF_any _ _ 0 [] w2 (row_nilG _) (row_nilG _) (by omega)).mono ?_; rintro e w3 ⟨rfl, m3, hw3⟩; refine Hid.out ?_)
  refine Lib.hid ?_
  subst hw3
  have HB : Hid (Below w.heap.size w (w2.drewN m3)) := below_drew hb2 m3
  clear hb2
  generalize w2.drewN m3 = w4 at *
  have hV4 := hV.on HB.out
  go_wp2_with (first | (go_at_call 12; refine (mark_nil _ _).mono ?_; rintro e w5 ⟨rfl, hw5⟩; subst hw5) | (go_at_call 13; refine (held_nil _ _).mono ?_; rintro e w5 ⟨rfl, hw5⟩; subst hw5) | (go_at_call 11; refine (hI _ hV4).mono ?_; rintro e w6 ⟨v, rfl, hres, hb6⟩; obtain rfl : v = _ := hres; have HB6 := Lib.hid hb6; clear hb6; refine Hid.out ?_))
  refine Lib.hid ?_
  have HB7 : Hid (Below w.heap.size w w6) := HB.out.trans (HB6.out.mono HB.out.size)
  clear HB6
  go_wp2_with (go_at_call 9; refine (eqF_any _ _ 0 [] w6 (row_nilG _) (row_nilG _) (by omega)).mono ?_; rintro e w7 ⟨rfl, m7, hw7⟩; have HW7 := Lib.hid hw7; clear hw7; refine Hid.out ?_)
  refine Lib.hid ?_
  have HB8 : Hid (Below w.heap.size w w7) := by
    have h := HW7.out
    subst h
    exact below_drew HB7.out m7
  go_wp2_with (go_at_call 13; refine (held_nil _ _).mono ?_; rintro e w5 ⟨rfl, hw5⟩; subst hw5)
  go_ret
  exact ⟨rfl, HB8.out⟩

set_option maxRecDepth 20000 in
set_option maxHeartbeats 2000000 in
theorem readNumbers_some (s : ByteArray) (w : World) (hlen : ¬ s.size > 1048576) (hV : Vars w) (zs : List Nat) (hr : rlist s = some zs) : Calls Tryd.prog 4 #[.string s] w fun e w' => e = .returned (.bool true) ∧ Below w.heap.size w w' := by
  have hS := list_spec' s w (by omega)
  have hI := fun w0 hV0 => list_impl s w0 (by omega) hV0
  rw [hr] at hS
  simp only [hr] at hI
  obtain ⟨h64, hwf⟩ := rlist_wf hr
  obtain ⟨n, hn⟩ : ∃ n, n = zs.length := ⟨_, rfl⟩
  have hS' : Calls Tryd.prog 10 #[.string s] w fun e w' => ∃ g cp, e = .returned (.tuple #[.slice (some ⟨g, 0, none⟩) n cp, .bool true]) ∧ w.heap.size ≤ g ∧ Hid (FOwn w' g n zs) ∧ n ≤ cp ∧ cp ≤ maxLen ∧ Hid (Below w.heap.size w w') :=
    hS.mono fun e w' ⟨v, he, ⟨g, cp, hv, h1, h2, h3, h4⟩, hb⟩ => ⟨g, cp, by rw [he, hv, hn], h1, by rw [hn]; exact h2, by omega, h4, hb⟩
  have hI' : ∀ w0, Vars w0 → Calls Tryd.prog 11 #[.string s] w0 fun e w' => ∃ g cp, e = .returned (.tuple #[.slice (some ⟨g, 0, none⟩) n cp, .bool true]) ∧ w0.heap.size ≤ g ∧ Hid (FOwn w' g n zs) ∧ n ≤ cp ∧ cp ≤ maxLen ∧ Hid (Below w0.heap.size w0 w') :=
    fun w0 hV0 => (hI w0 hV0).mono fun e w' ⟨v, he, ⟨g, cp, hv, h1, h2, h3, h4⟩, hb⟩ => ⟨g, cp, by rw [he, hv, hn], h1, by rw [hn]; exact h2, by omega, h4, hb⟩
  have HWF : Hid (∀ z ∈ zs, z < 4294967296) := hwf
  have hn64 : n ≤ 256 := by omega
  clear hr hS hI hwf h64 hn
  go_enter Tryd.func4, Tryd.ntmps4
  go_wp2_with (go_at_call 10; refine hS'.mono ?_; rintro e w1 ⟨gw, cw, rfl, hgw, HW, hcw, hcw', HB1⟩; refine Hid.out ?_)
  refine Lib.hid ?_
  go_wp2_with (go_at_call 11; refine (hI' _ (hV.on HB1.out)).mono ?_; rintro e w2 ⟨gi, ci, rfl, hgi, HI, hci, hci', HB2⟩; refine Hid.out ?_)
  refine Lib.hid ?_
  have hlt1 : gw < w1.heap.size := HW.out.2.1
  have hne : gw ≠ gi := by omega
  have HW2 : Hid (FOwn w2 gw n zs) := HW.out.below HB2.out hlt1
  have HB2' : Hid (Below w.heap.size w w2) := HB1.out.trans (HB2.out.mono HB1.out.size)
  have hgi' : w.heap.size ≤ gi := Nat.le_trans HB1.out.size hgi
  have HRi : Hid _ := HI.out.rowc hci hci' HWF.out
  have HRw : Hid _ := HW2.out.rowc hcw hcw' HWF.out
  clear HW HB1 HB2 hgi hS'
  go_wp2_with (go_at_call 9; refine (eqF_any _ _ n zs w2 HRi.out HRw.out (by omega)).mono ?_; rintro e w3 ⟨rfl, m3, hw3⟩; have HW3 := Lib.hid hw3; clear hw3; refine Hid.out ?_)
  refine Lib.hid ?_
  have HI3 : Hid (FOwn w3 gi n zs) := by have h := HW3.out; subst h; exact HI.out
  have HO3 : Hid (FOwn w3 gw n zs) := by have h := HW3.out; subst h; exact HW2.out
  have HB3 : Hid (Below w.heap.size w w3) := by have h := HW3.out; subst h; exact below_drew HB2'.out m3
  clear HI HW2 HB2' HW3 HRi HRw
  go_wp2_with (go_at_call 12; refine (mark_any gi n ci zs 1 w3 HI3.out (by omega) (by omega) (by omega)).mono ?_; rintro e w4 ⟨rfl, hm4, ho4⟩; have HM4 := Lib.hid hm4; have HO4 := Lib.hid ho4; clear hm4 ho4; refine Hid.out ?_)
  refine Lib.hid ?_
  have HW4 : Hid (FOwn w4 gw n zs) := HO3.out.only HO4.out hne
  have HB4 : Hid (Below w.heap.size w w4) := HB3.out.trans (HO4.out.below hgi')
  have hlt4 : gw < w4.heap.size := HW4.out.2.1
  have hlti : gi < w4.heap.size := HM4.out.2.1
  have hV4 := hV.on HB4.out
  clear HI3 HO3 HB3 HO4
  go_wp2_with (first | (go_at_call 13; refine (held_any gi n ci 1 w4 HM4.out (by omega) (by omega) (by omega)).mono ?_; rintro e w5 ⟨rfl, hw5⟩; subst hw5) | (go_at_call 11; refine (hI' _ hV4).mono ?_; rintro e w6 ⟨gh, ch, rfl, hgh, HH, hch, hch', HB6⟩; refine Hid.out ?_))
  refine Lib.hid ?_
  have HHW : Hid (FOwn w6 gw n zs) := HW4.out.below HB6.out hlt4
  have HHI : Hid (FOwn w6 gi n (marks 1 n)) := HM4.out.below HB6.out hlti
  have HB6' : Hid (Below w.heap.size w w6) := HB4.out.trans (HB6.out.mono HB4.out.size)
  have HRh : Hid _ := HH.out.rowc hch hch' HWF.out
  have HRw : Hid _ := HHW.out.rowc hcw hcw' HWF.out
  clear HM4 HW4 HB4 HH HHW HB6 hI' hV4
  go_wp2_with (go_at_call 9; refine (eqF_any _ _ n zs w6 HRh.out HRw.out (by omega)).mono ?_; rintro e w7 ⟨rfl, m7, hw7⟩; have HW7 := Lib.hid hw7; clear hw7; refine Hid.out ?_)
  refine Lib.hid ?_
  have HI7 : Hid (FOwn w7 gi n (marks 1 n)) := by have h := HW7.out; subst h; exact HHI.out
  have HB7 : Hid (Below w.heap.size w w7) := by have h := HW7.out; subst h; exact below_drew HB6'.out m7
  clear HHI HB6' HW7 HRh HRw
  go_wp2_with (go_at_call 13; refine (held_any gi n ci 1 w7 HI7.out (by omega) (by omega) (by omega)).mono ?_; rintro e w8 ⟨rfl, hw8⟩; subst hw8)
  go_ret
  exact ⟨rfl, HB7.out⟩

theorem es_type : (Tryd.prog.globals[2]?).map (·.type) = some 57 := by kernel_rfl
theorem es_named : Tryd.prog.globalNamed "strconv.ErrSyntax" = some 2 := by kernel_rfl
theorem er_named : Tryd.prog.globalNamed "strconv.ErrRange" = some 3 := by kernel_rfl
theorem er_type : (Tryd.prog.globals[3]?).map (·.type) = some 57 := by kernel_rfl
theorem es_cells : Tryd.prog.cellsOf 122 = 1 := by kernel_rfl
theorem str_cells : Tryd.prog.cellsOf 9 = 1 := by kernel_rfl
theorem es_star : "*" ++ "errors.errorString" = "*errors.errorString" := by decide
theorem es_row (u : TypeId) (h : Tryd.prog.typeName? 3 u = some "*errors.errorString") : u = 120 :=
  typeName_ptr_named (nm := "errors.errorString") (by rw [es_star]; kernel_rfl) (by kernel_rfl) (by decide) u (by rw [es_star]; exact h)

theorem range_var {r : List (String × DataW Unit)} {w : World} (h : laidMet Tryd.prog (("strconv.ErrRange", Rows.laid_strconv_ErrRange) :: r) w) : ∃ t p, w.cell? ⟨3, 0, none⟩ = some (.iface t p) := by
  obtain ⟨a, s, h, _⟩ := laid_sentinel h er_named er_type Tryd.underlying57 es_row Tryd.underlying120 Tryd.underlying122 rfl rfl Tryd.underlying9 es_cells str_cells
  exact ⟨_, _, by simpa using World.var?_cell er_named h 0⟩
theorem syn_var {r : List (String × DataW Unit)} {w : World} (h : laidMet Tryd.prog (("strconv.ErrSyntax", Rows.laid_strconv_ErrSyntax) :: r) w) : ∃ t p, w.cell? ⟨2, 0, none⟩ = some (.iface t p) := by
  obtain ⟨a, s, h, _⟩ := laid_sentinel h es_named es_type Tryd.underlying57 es_row Tryd.underlying120 Tryd.underlying122 rfl rfl Tryd.underlying9 es_cells str_cells
  exact ⟨_, _, by simpa using World.var?_cell es_named h 0⟩

theorem max_of_shape {w : World} (h : w.ShapedOpen Tryd.prog) : ∃ m, w.cell? ⟨1, 0, none⟩ = some (.int .i64 m) :=
  cell_of_shapedOpen_int (g := 1) (t := 3) (zero := #[.int .i64 0]) h (of_decide_eq_true (by kernel_rfl)) (by kernel_rfl) rfl (by kernel_rfl) (by kernel_rfl) Tryd.underlying3

theorem vars_of_laidL {w : World} (hL : laidMet Tryd.prog Rows.fnExactReadNumbersRow.laid w) (hsh : w.ShapedOpen Tryd.prog) : Vars w := by
  have h5 := hL.tail.tail.tail.tail
  exact ⟨tz_of_laid hL.tail, syn_var h5.tail, range_var h5, max_of_shape hsh⟩

theorem readNumbers_row (s : ByteArray) (w : World) (_ : s.size ≤ maxLen) (hL : laidMet Tryd.prog Rows.fnExactReadNumbersRow.laid w) (hsh : w.ShapedOpen Tryd.prog) : Calls Tryd.prog 4 #[.string s] w fun e w' => e = .returned (.bool true) ∧ Below w.heap.size w w' := by
  by_cases hlen : s.size > 1048576
  · go_enter Tryd.func4, Tryd.ntmps4
    go_wp2
    go_ret
    exact ⟨rfl, Below.refl _ _⟩
  · cases hr : rlist s with
    | none => exact readNumbers_none s w hlen (vars_of_laidL hL hsh) hr
    | some zs => exact readNumbers_some s w hlen (vars_of_laidL hL hsh) zs hr

end Go.Proofs.YtlhhedmammjieaaDoor
