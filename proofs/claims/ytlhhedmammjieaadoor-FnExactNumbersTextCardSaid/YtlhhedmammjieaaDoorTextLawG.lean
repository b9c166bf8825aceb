/- The law of NumbersText. -/
import Derived.Test.YtlhhedmammjieaaDoorTextG2
import Derived.Test.YtlhhedmammjieaaDoorLaidG
namespace Go.Proofs.YtlhhedmammjieaaDoor
open Go.RowKit Opn

/-- a text and whether there is one, as results -/
def tres (zs : List Nat) : List UInt8 × Bool := if zs.length ≤ 256 then (ltext zs, true) else ([], false)

theorem frow_shape {w : World} {v : Value} {n : Nat} {zs : List Nat} (h : FRow w v n zs) : ∃ ao cap, v = .slice ao n cap := by
  rcases h.2.2.2 with ⟨h0, ao, cap, hv⟩ | ⟨h0, b, off, cap, hv, _⟩
  · exact ⟨ao, cap, by rw [hv, h0]⟩
  · exact ⟨_, cap, hv⟩

theorem spec_text (v : Value) (n : Nat) (zs : List Nat) (w : World) (h : FRow w v n zs) : Calls Tryd.prog 6 #[v] w fun e w' => e = .returned (.tuple #[.string ⟨(tres zs).1.toArray⟩, .bool (tres zs).2]) ∧ Below w.heap.size w w' := by
  have hl : zs.length = n := h.1
  obtain ⟨ao, cap, hv⟩ := frow_shape h
  by_cases h64 : n ≤ 256
  · have e : tres zs = (ltext zs, true) := by unfold tres; rw [if_pos (by omega)]
    rw [e]
    have HX := Lib.hid (text_spec v n zs w h h64)
    clear h e hl
    generalize ltext zs = t at *
    subst hv
    have hd : decide ((n : Int) ≤ 256) = true := decide_eq_true (by omega)
    go_enter Tryd.func6, Tryd.ntmps6
    go_wp2_with (first | (go_at_call 20; refine HX.out.mono ?_; rintro e w2 ⟨rfl, hb2⟩; have HB := Lib.hid hb2; clear hb2; refine Hid.out ?_) | go_in)
    refine Lib.hid ?_
    go_wp2
    go_ret2
    exact ⟨rfl, HB.out⟩
  · have e : tres zs = ([], false) := by unfold tres; rw [if_neg (by omega)]
    rw [e]
    clear h e hl
    subst hv
    have hd : decide ((n : Int) ≤ 256) = false := decide_eq_false (by omega)
    go_enter Tryd.func6, Tryd.ntmps6
    go_wp2_with go_in
    go_ret2
    exact ⟨rfl, Below.refl _ _⟩

theorem impl_text (v : Value) (n : Nat) (zs : List Nat) (w : World) (h : FRow w v n zs) (htz : Tz w) : Calls Tryd.prog 8 #[v] w fun e w' => e = .returned (.tuple #[.string ⟨(tres zs).1.toArray⟩, .bool (tres zs).2]) ∧ Below w.heap.size w w' := by
  have hl : zs.length = n := h.1
  obtain ⟨ao, cap, hv⟩ := frow_shape h
  by_cases h64 : n ≤ 256
  · have e : tres zs = (ltext zs, true) := by unfold tres; rw [if_pos (by omega)]
    rw [e]
    have HX := Lib.hid (text_impl v n zs w h h64 htz)
    clear h e hl
    generalize ltext zs = t at *
    subst hv
    have hd : decide ((n : Int) ≤ 256) = true := decide_eq_true (by omega)
    go_enter Tryd.func8, Tryd.ntmps8
    go_wp2_with (first | (go_at_call 22; refine HX.out.mono ?_; rintro e w2 ⟨rfl, hb2⟩; have HB := Lib.hid hb2; clear hb2; refine Hid.out ?_) | go_in)
    refine Lib.hid ?_
    go_wp2
    go_ret2
    exact ⟨rfl, HB.out⟩
  · have e : tres zs = ([], false) := by unfold tres; rw [if_neg (by omega)]
    rw [e]
    clear h e hl
    subst hv
    have hd : decide ((n : Int) ≤ 256) = false := decide_eq_false (by omega)
    go_enter Tryd.func8, Tryd.ntmps8
    go_wp2_with go_in
    go_ret2
    exact ⟨rfl, Below.refl _ _⟩

set_option maxRecDepth 20000 in
set_option maxHeartbeats 2000000 in
theorem text_law (v : Value) (n : Nat) (zs : List Nat) (w : World) (h : FRow w v n zs) (htz : Tz w) : Calls Tryd.prog 3 #[v] w fun e w' => e = .returned (.bool true) ∧ Below w.heap.size w w' := by
  obtain ⟨ao, cap, hv⟩ := frow_shape h
  by_cases hlen : 1048576 < n
  · subst hv
    go_enter Tryd.func3, Tryd.ntmps3
    go_wp2
    go_ret
    exact ⟨rfl, Below.refl _ _⟩
  · have hn : n ≤ 1048576 := by omega
    have hm : n ≤ maxLen := by show n ≤ 9223372036854775807; omega
    have HW : Hid (∀ z ∈ zs, z < 4294967296) := h.2.2.1
    have HR : Hid (∀ w', Below w.heap.size w w' → Calls Tryd.prog 7 #[v] w' fun e w'' => ∃ g, e = .returned (.slice (some ⟨g, 0, none⟩) n n) ∧ w'.heap.size ≤ g ∧ Hid (FOwn w'' g n zs) ∧ Hid (Below w'.heap.size w' w'')) := fun w' hb => toF_any v n zs w' (h.below hb (Nat.le_refl _)) hn
    have HS : Hid (∀ w' g, FOwn w' g n zs → Calls Tryd.prog 6 #[.slice (some ⟨g, 0, none⟩) n n] w' fun e w'' => e = .returned (.tuple #[.string ⟨(tres zs).1.toArray⟩, .bool (tres zs).2]) ∧ Hid (Below w'.heap.size w' w'')) := fun w' g ho => spec_text _ n zs w' (ho.row hm HW.out)
    have HI : Hid (∀ w' g, Below w.heap.size w w' → FOwn w' g n zs → Calls Tryd.prog 8 #[.slice (some ⟨g, 0, none⟩) n n] w' fun e w'' => e = .returned (.tuple #[.string ⟨(tres zs).1.toArray⟩, .bool (tres zs).2]) ∧ Hid (Below w'.heap.size w' w'')) := fun w' g hb ho => impl_text _ n zs w' (ho.row hm HW.out) (htz.on hb)
    clear h htz
    generalize tres zs = p at *
    obtain ⟨t, b⟩ := p
    subst hv
    go_enter Tryd.func3, Tryd.ntmps3
    go_wp2_with (go_at_call 7; refine (HR.out _ (Below.refl _ _)).mono ?_; rintro e w1 ⟨g1, rfl, hg1, H1, HB1⟩; refine Hid.out ?_)
    refine Lib.hid ?_
    go_wp2_with (go_at_call 6; refine (HS.out _ g1 H1.out).mono ?_; rintro e w2 ⟨rfl, HB2⟩; refine Hid.out ?_)
    refine Lib.hid ?_
    have HC2 : Hid (Below w.heap.size w w2) := HB1.out.trans (HB2.out.mono HB1.out.size)
    clear HB1 HB2 H1 hg1
    go_wp2_with (go_at_call 7; refine (HR.out _ HC2.out).mono ?_; rintro e w3 ⟨g3, rfl, hg3, H3, HB3⟩; refine Hid.out ?_)
    refine Lib.hid ?_
    have HC3 : Hid (Below w.heap.size w w3) := HC2.out.trans (HB3.out.mono HC2.out.size)
    clear HB3
    go_wp2_with (go_at_call 8; refine (HI.out _ g3 HC3.out H3.out).mono ?_; rintro e w4 ⟨rfl, HB4⟩; refine Hid.out ?_)
    refine Lib.hid ?_
    have HC4 : Hid (Below w.heap.size w w4) := HC3.out.trans (HB4.out.mono HC3.out.size)
    have H4 : Hid (FOwn w4 g3 n zs) := H3.out.below HB4.out H3.out.2.1
    have hg4 : g3 < w4.heap.size := H4.out.2.1
    clear HB4 H3 HC3 HC2
    cases b
    all_goals (
      go_wp2_with (go_at_call 7; refine (HR.out _ HC4.out).mono ?_; rintro e w5 ⟨g5, rfl, hg5, H5, HB5⟩; refine Hid.out ?_)
      refine Lib.hid ?_
      have HC5 : Hid (Below w.heap.size w w5) := HC4.out.trans (HB5.out.mono HC4.out.size)
      have HR3 := Lib.hid ((H4.out.below HB5.out hg4).row hm HW.out)
      have HR5 := Lib.hid (H5.out.row hm HW.out)
      clear HB5
      go_wp2_with (go_at_call 9; refine (eqF_any _ _ n zs w5 HR3.out HR5.out hn).mono ?_; rintro e w6 ⟨rfl, m, rfl⟩; refine Hid.out ?_)
      refine Lib.hid ?_
      go_wp2
      go_ret
      exact ⟨rfl, below_drewN HC5.out m⟩)

theorem text_row (v : Value) (n : Nat) (zs : List Nat) (w : World) (h : FRow w v n zs) (hL : laidMet Tryd.prog Rows.fnExactNumbersTextRow.laid w) (_ : w.ShapedOpen Tryd.prog) : Calls Tryd.prog 3 #[v] w fun e w' => e = .returned (.bool true) ∧ Below w.heap.size w w' :=
  text_law v n zs w h (tz_of_laid hL.tail)

end Go.Proofs.YtlhhedmammjieaaDoor
