/- The law of ReadComplex. -/
import Derived.Test.YtlhhedmammjieaaDoorListC
import Derived.Test.YtlhhedmammjieaaDoorListC2
import Derived.Test.YtlhhedmammjieaaDoorListLawG
import Derived.Test.YtlhhedmammjieaaDoorLaidG
import Derived.HandedShaped
import Derived.Shelf.Vars
namespace Go.Proofs.YtlhhedmammjieaaDoor
open Go.RowKit Opn

theorem listC_spec' (s : ByteArray) (w : World) (hs : s.size ≤ 1048576) : Calls Tryd.prog 14 #[.string s] w fun e w' => ∃ v, e = .returned v ∧ ListResC w.heap.size w' (rlistC s) v ∧ Below w.heap.size w w' := by
  have hR := listC_spec s w hs
  cases hr : rlistC s with
  | none =>
    rw [hr] at hR
    go_enter Tryd.func14, Tryd.ntmps14
    go_wp2_with (go_at_call 27; refine hR.mono ?_; rintro e w1 ⟨v, rfl, hres, hb1⟩; obtain rfl : v = _ := hres; refine Hid.out ?_)
    refine Lib.hid ?_
    have HB : Hid _ := hb1
    clear hb1
    go_wp2
    go_ret2
    exact ⟨_, rfl, rfl, HB.out⟩
  | some zs =>
    rw [hr] at hR
    go_enter Tryd.func14, Tryd.ntmps14
    go_wp2_with (go_at_call 27; refine hR.mono ?_; rintro e w1 ⟨v, rfl, hres, hb1⟩; obtain ⟨g, cp, rfl, h1, h2, h3, h4⟩ := hres; have H2 := Lib.hid h2; have HB := Lib.hid hb1; clear h2 hb1; refine Hid.out ?_)
    refine Lib.hid ?_
    go_wp2
    go_ret2
    exact ⟨_, rfl, ⟨g, cp, rfl, h1, H2.out, h3, h4⟩, HB.out⟩

set_option maxRecDepth 20000 in
set_option maxHeartbeats 2000000 in
theorem readComplex_none (s : ByteArray) (w : World) (hlen : ¬ s.size > 1048576) (hV : Vars w) (hr : rlistC s = none) : Calls Tryd.prog 5 #[.string s] w fun e w' => e = .returned (.bool true) ∧ Below w.heap.size w w' := by
  have hS := listC_spec' s w (by omega)
  have hI := fun w0 hV0 => listC_impl s w0 (by omega) hV0
  rw [hr] at hS
  simp only [hr] at hI
  clear hr
  go_enter Tryd.func5, Tryd.ntmps5
  go_wp2_with (go_at_call 14; refine hS.mono ?_; rintro e w1 ⟨v, rfl, hres, hb1⟩; obtain rfl : v = _ := hres; refine Hid.out ?_)
  refine Lib.hid ?_
  go_wp2_with (go_at_call 15; refine (hI _ (hV.on hb1)).mono ?_; rintro e w2 ⟨v, rfl, hres, hb2'⟩; obtain rfl : v = _ := hres; refine Hid.out ?_)
  refine Lib.hid ?_
  have hb2 : Below w.heap.size w w2 := hb1.trans (hb2'.mono hb1.size)
  clear hb1 hb2'
  go_wp2_with (go_at_call 16; refine (eqC_nil w2).mono ?_; rintro e w3 ⟨rfl, m3, hw3⟩; refine Hid.out ?_)
  refine Lib.hid ?_
  subst hw3
  have HB : Hid (Below w.heap.size w (w2.drewN m3)) := below_drew hb2 m3
  clear hb2
  generalize w2.drewN m3 = w4 at *
  have hV4 := hV.on HB.out
  go_wp2_with (first | (go_at_call 17; refine (markC_nil _ _).mono ?_; rintro e w5 ⟨rfl, hw5⟩; subst hw5) | (go_at_call 18; refine (heldC_nil _ _).mono ?_; rintro e w5 ⟨rfl, hw5⟩; subst hw5) | (go_at_call 15; refine (hI _ hV4).mono ?_; rintro e w6 ⟨v, rfl, hres, hb6⟩; obtain rfl : v = _ := hres; have HB6 := Lib.hid hb6; clear hb6; refine Hid.out ?_))
  refine Lib.hid ?_
  have HB7 : Hid (Below w.heap.size w w6) := HB.out.trans (HB6.out.mono HB.out.size)
  clear HB6
  go_wp2_with (go_at_call 16; refine (eqC_nil w6).mono ?_; rintro e w7 ⟨rfl, m7, hw7⟩; have HW7 := Lib.hid hw7; clear hw7; refine Hid.out ?_)
  refine Lib.hid ?_
  have HB8 : Hid (Below w.heap.size w w7) := by
    have h := HW7.out
    subst h
    exact below_drew HB7.out m7
  go_wp2_with (go_at_call 18; refine (heldC_nil _ _).mono ?_; rintro e w5 ⟨rfl, hw5⟩; subst hw5)
  go_ret
  exact ⟨rfl, HB8.out⟩

set_option maxRecDepth 20000 in
set_option maxHeartbeats 2000000 in
theorem readComplex_some (s : ByteArray) (w : World) (hlen : ¬ s.size > 1048576) (hV : Vars w) (zs : List (Nat × Nat)) (hr : rlistC s = some zs) : Calls Tryd.prog 5 #[.string s] w fun e w' => e = .returned (.bool true) ∧ Below w.heap.size w w' := by
  have hS := listC_spec' s w (by omega)
  have hI := fun w0 hV0 => listC_impl s w0 (by omega) hV0
  rw [hr] at hS
  simp only [hr] at hI
  have h64 := rlistC_len hr
  obtain ⟨n, hn⟩ : ∃ n, n = zs.length := ⟨_, rfl⟩
  have hS' : Calls Tryd.prog 14 #[.string s] w fun e w' => ∃ g cp, e = .returned (.tuple #[.slice (some ⟨g, 0, none⟩) n cp, .bool true]) ∧ w.heap.size ≤ g ∧ Hid (COwn w' g n zs) ∧ n ≤ cp ∧ cp ≤ maxLen ∧ Hid (Below w.heap.size w w') :=
    hS.mono fun e w' ⟨v, he, ⟨g, cp, hv, h1, h2, h3, h4⟩, hb⟩ => ⟨g, cp, by rw [he, hv, hn], h1, by rw [hn]; exact h2, by omega, h4, hb⟩
  have hI' : ∀ w0, Vars w0 → Calls Tryd.prog 15 #[.string s] w0 fun e w' => ∃ g cp, e = .returned (.tuple #[.slice (some ⟨g, 0, none⟩) n cp, .bool true]) ∧ w0.heap.size ≤ g ∧ Hid (COwn w' g n zs) ∧ n ≤ cp ∧ cp ≤ maxLen ∧ Hid (Below w0.heap.size w0 w') :=
    fun w0 hV0 => (hI w0 hV0).mono fun e w' ⟨v, he, ⟨g, cp, hv, h1, h2, h3, h4⟩, hb⟩ => ⟨g, cp, by rw [he, hv, hn], h1, by rw [hn]; exact h2, by omega, h4, hb⟩
  have hn64 : n ≤ 256 := by omega
  clear hr hS hI h64 hn
  go_enter Tryd.func5, Tryd.ntmps5
  go_wp2_with (go_at_call 14; refine hS'.mono ?_; rintro e w1 ⟨gw, cw, rfl, hgw, HW, hcw, hcw', HB1⟩; refine Hid.out ?_)
  refine Lib.hid ?_
  go_wp2_with (go_at_call 15; refine (hI' _ (hV.on HB1.out)).mono ?_; rintro e w2 ⟨gi, ci, rfl, hgi, HI, hci, hci', HB2⟩; refine Hid.out ?_)
  refine Lib.hid ?_
  have hlt1 : gw < w1.heap.size := HW.out.2.1
  have hne : gw ≠ gi := by omega
  have HW2 : Hid (COwn w2 gw n zs) := HW.out.below HB2.out hlt1
  have HB2' : Hid (Below w.heap.size w w2) := HB1.out.trans (HB2.out.mono HB1.out.size)
  have hgi' : w.heap.size ≤ gi := Nat.le_trans HB1.out.size hgi
  clear HW HB1 HB2 hgi hS'
  go_wp2_with (go_at_call 16; refine (eqC_any gi gw n ci cw zs w2 HI.out HW2.out hci hcw (by omega)).mono ?_; rintro e w3 ⟨rfl, m3, hw3⟩; have HW3 := Lib.hid hw3; clear hw3; refine Hid.out ?_)
  refine Lib.hid ?_
  have HI3 : Hid (COwn w3 gi n zs) := by have h := HW3.out; subst h; exact HI.out
  have HO3 : Hid (COwn w3 gw n zs) := by have h := HW3.out; subst h; exact HW2.out
  have HB3 : Hid (Below w.heap.size w w3) := by have h := HW3.out; subst h; exact below_drew HB2'.out m3
  clear HI HW2 HB2' HW3
  go_wp2_with (go_at_call 17; refine (markC_any gi n ci zs 1 w3 HI3.out (by omega) (by omega) (by omega)).mono ?_; rintro e w4 ⟨rfl, hm4, ho4⟩; have HM4 := Lib.hid hm4; have HO4 := Lib.hid ho4; clear hm4 ho4; refine Hid.out ?_)
  refine Lib.hid ?_
  have HW4 : Hid (COwn w4 gw n zs) := HO3.out.only HO4.out hne
  have HB4 : Hid (Below w.heap.size w w4) := HB3.out.trans (HO4.out.below hgi')
  have hlt4 : gw < w4.heap.size := HW4.out.2.1
  have hlti : gi < w4.heap.size := HM4.out.2.1
  have hV4 := hV.on HB4.out
  clear HI3 HO3 HB3 HO4
  go_wp2_with (first | (go_at_call 18; refine (heldC_any gi n ci 1 w4 HM4.out (by omega) (by omega) (by omega)).mono ?_; rintro e w5 ⟨rfl, hw5⟩; subst hw5) | (go_at_call 15; refine (hI' _ hV4).mono ?_; rintro e w6 ⟨gh, ch, rfl, hgh, HH, hch, hch', HB6⟩; refine Hid.out ?_))
  refine Lib.hid ?_
  have HHW : Hid (COwn w6 gw n zs) := HW4.out.below HB6.out hlt4
  have HHI : Hid (COwn w6 gi n (cmarks 1 n)) := HM4.out.below HB6.out hlti
  have HB6' : Hid (Below w.heap.size w w6) := HB4.out.trans (HB6.out.mono HB4.out.size)
  clear HM4 HW4 HB4 HB6 hI' hV4
  go_wp2_with (go_at_call 16; refine (eqC_any gh gw n ch cw zs w6 HH.out HHW.out hch hcw (by omega)).mono ?_; rintro e w7 ⟨rfl, m7, hw7⟩; have HW7 := Lib.hid hw7; clear hw7; refine Hid.out ?_)
  refine Lib.hid ?_
  have HI7 : Hid (COwn w7 gi n (cmarks 1 n)) := by have h := HW7.out; subst h; exact HHI.out
  have HB7 : Hid (Below w.heap.size w w7) := by have h := HW7.out; subst h; exact below_drew HB6'.out m7
  clear HHI HB6' HW7
  go_wp2_with (go_at_call 18; refine (heldC_any gi n ci 1 w7 HI7.out (by omega) (by omega) (by omega)).mono ?_; rintro e w8 ⟨rfl, hw8⟩; subst hw8)
  go_ret
  exact ⟨rfl, HB7.out⟩

theorem vars_of_laidC {w : World} (hL : laidMet Tryd.prog Rows.fnExactReadComplexRow.laid w) (hsh : w.ShapedOpen Tryd.prog) : Vars w := by
  have h5 := hL.tail.tail.tail.tail
  exact ⟨tz_of_laid hL.tail, syn_var h5.tail, range_var h5, max_of_shape hsh⟩

theorem readComplex_row (s : ByteArray) (w : World) (_ : s.size ≤ maxLen) (hL : laidMet Tryd.prog Rows.fnExactReadComplexRow.laid w) (hsh : w.ShapedOpen Tryd.prog) : Calls Tryd.prog 5 #[.string s] w fun e w' => e = .returned (.bool true) ∧ Below w.heap.size w w' := by
  by_cases hlen : s.size > 1048576
  · go_enter Tryd.func5, Tryd.ntmps5
    go_wp2
    go_ret
    exact ⟨rfl, Below.refl _ _⟩
  · cases hr : rlistC s with
    | none => exact readComplex_none s w hlen (vars_of_laidC hL hsh) hr
    | some zs => exact readComplex_some s w hlen (vars_of_laidC hL hsh) zs hr

end Go.Proofs.YtlhhedmammjieaaDoor
