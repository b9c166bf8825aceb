/- The law of ListText. -/
import Derived.Test.YtjjcljdbmgjoeaaDoorText2
import Derived.Test.YtjjcljdbmgjoeaaDoorLaid
import Derived.Test.YtjjcljdbmgjoeaaDoorIMark
namespace Go.Proofs.YtjjcljdbmgjoeaaDoor
open Go.RowKit Opn

/-- a text and whether there is one, as results -/
def tres (zs : List Int) : List UInt8 × Bool := if allI zs = true ∧ zs.length ≤ 64 then (ltext zs, true) else ([], false)

theorem spec_text (v : Value) (n : Nat) (zs : List Int) (w : World) (h : IRow .i64 w v n zs) (hn : n ≤ 1048576) : Calls Tryd.prog 16 #[v] w fun e w' => e = .returned (.tuple #[.string ⟨(tres zs).1.toArray⟩, .bool (tres zs).2]) ∧ Below w.heap.size w w' := by
  have hl : zs.length = n := h.1
  have hA := allI_spec v n zs w h hn
  by_cases hok : allI zs = true ∧ zs.length ≤ 64
  · have e : tres zs = (ltext zs, true) := by unfold tres; rw [if_pos hok]
    rw [e]
    have hb : (allI zs && decide (n ≤ 64)) = true := by rw [hok.1, Bool.true_and]; exact decide_eq_true (by omega)
    rw [hb] at hA
    have HX : Hid (∀ m : Nat, Calls Tryd.prog 27 #[v] (w.drewN m) fun e w' => e = .returned (.string ⟨(ltext zs).toArray⟩) ∧ Below w.heap.size w w') := fun m =>
      (text_spec v n zs (w.drewN m) (h.drewN m) (by omega) hok.1).mono fun e w' ⟨he, hb⟩ => ⟨he, (below_drewN (Below.refl _ w) m).trans hb⟩
    clear h hok e hb
    generalize ltext zs = t at *
    go_enter Tryd.func16, Tryd.ntmps16
    go_wp2_with (first | (go_at_call 26; refine hA.mono ?_; rintro e w1 ⟨rfl, m, rfl⟩) | (go_at_call 27; refine (HX.out _).mono ?_; rintro e w2 ⟨rfl, hb2⟩; have HB := Lib.hid hb2; clear hb2; refine Hid.out ?_))
    refine Lib.hid ?_
    go_wp2
    go_ret2
    exact ⟨rfl, HB.out⟩
  · have e : tres zs = ([], false) := by unfold tres; rw [if_neg hok]
    rw [e]
    have hb : (allI zs && decide (n ≤ 64)) = false := by
      rw [Bool.eq_false_iff]
      intro h'
      rw [Bool.and_eq_true, decide_eq_true_iff] at h'
      exact hok ⟨h'.1, by omega⟩
    rw [hb] at hA
    clear h hok e hb
    go_enter Tryd.func16, Tryd.ntmps16
    go_wp2_with (go_at_call 26; refine hA.mono ?_; rintro e w1 ⟨rfl, m, rfl⟩)
    go_ret2
    exact ⟨rfl, below_drewN (Below.refl _ w) m⟩

theorem impl_text (v : Value) (n : Nat) (zs : List Int) (w : World) (h : IRow .i64 w v n zs) (hn : n ≤ 1048576) (htab : Lib.TabIs Tryd.prog w "internal/strconv.uint64pow10" .u64 Lib.pow10Tab) : Calls Tryd.prog 18 #[v] w fun e w' => e = .returned (.tuple #[.string ⟨(tres zs).1.toArray⟩, .bool (tres zs).2]) ∧ Below w.heap.size w w' := by
  have hl : zs.length = n := h.1
  have hA := allI_impl v n zs w h hn
  have hT := Lib.tabBelow_of_tabIs htab
  obtain ⟨ao, cap, hv⟩ : ∃ ao cap, v = .slice ao n cap := by
    rcases h.2.2.2 with ⟨h0, ao, cap, hv⟩ | ⟨h0, b, off, cap, hv, _⟩
    · exact ⟨ao, cap, by rw [hv, h0]⟩
    · exact ⟨_, cap, hv⟩
  by_cases h64 : n ≤ 64
  · by_cases hin : allI zs = true
    · have e : tres zs = (ltext zs, true) := by unfold tres; rw [if_pos ⟨hin, by omega⟩]
      rw [e]
      rw [hin] at hA
      have HX : Hid (∀ w1, Below w.heap.size w w1 → Calls Tryd.prog 29 #[v] w1 fun e w' => e = .returned (.string ⟨(ltext zs).toArray⟩) ∧ Below w.heap.size w w') := fun w1 hb1 =>
        (text_impl v n zs w1 (h.below hb1 (Nat.le_refl _)) h64 hin (hT.on hb1).here).mono fun e w' ⟨he, hb⟩ => ⟨he, hb1.trans (hb.mono hb1.size)⟩
      clear h hin e
      generalize ltext zs = t at *
      subst hv
      go_enter Tryd.func18, Tryd.ntmps18
      go_wp2_with (go_at_call 28; refine hA.mono ?_; rintro e w1 ⟨rfl, hb1⟩; have HB1 := Lib.hid hb1; clear hb1; refine Hid.out ?_)
      refine Lib.hid ?_
      go_wp2_with (go_at_call 29; refine (HX.out _ HB1.out).mono ?_; rintro e w2 ⟨rfl, hb2⟩; have HB := Lib.hid hb2; clear hb2; refine Hid.out ?_)
      refine Lib.hid ?_
      go_wp2
      go_ret2
      exact ⟨rfl, HB.out⟩
    · have e : tres zs = ([], false) := by unfold tres; rw [if_neg (fun h' => hin h'.1)]
      rw [e]
      rw [Bool.eq_false_iff.2 hin] at hA
      clear h hin e
      subst hv
      go_enter Tryd.func18, Tryd.ntmps18
      go_wp2_with (go_at_call 28; refine hA.mono ?_; rintro e w1 ⟨rfl, hb1⟩; have HB1 := Lib.hid hb1; clear hb1; refine Hid.out ?_)
      refine Lib.hid ?_
      go_wp2
      go_ret2
      exact ⟨rfl, HB1.out⟩
  · have e : tres zs = ([], false) := by unfold tres; rw [if_neg (fun h' => by omega)]
    rw [e]
    clear h hA e
    subst hv
    have hgt : 64 < n := by omega
    go_enter Tryd.func18, Tryd.ntmps18
    go_wp2
    go_ret2
    exact ⟨rfl, Below.refl _ _⟩

set_option maxRecDepth 20000 in
set_option maxHeartbeats 2000000 in
theorem text_law (v : Value) (n : Nat) (zs : List Int) (w : World) (h : IRow .i64 w v n zs) (htab : Lib.TabIs Tryd.prog w "internal/strconv.uint64pow10" .u64 Lib.pow10Tab) : Calls Tryd.prog 6 #[v] w fun e w' => e = .returned (.bool true) ∧ Below w.heap.size w w' := by
  have hT := Lib.tabBelow_of_tabIs htab
  obtain ⟨ao, cap, hv⟩ : ∃ ao cap, v = .slice ao n cap := by
    rcases h.2.2.2 with ⟨h0, ao, cap, hv⟩ | ⟨h0, b, off, cap, hv, _⟩
    · exact ⟨ao, cap, by rw [hv, h0]⟩
    · exact ⟨_, cap, hv⟩
  by_cases hlen : 1048576 < n
  · subst hv
    go_enter Tryd.func6, Tryd.ntmps6
    go_wp2
    go_ret
    exact ⟨rfl, Below.refl _ _⟩
  · have hn : n ≤ 1048576 := by omega
    have hm : n ≤ maxLen := by show n ≤ 9223372036854775807; omega
    have HW : Hid (∀ z ∈ zs, (Lit.int .i64 z).wf = true) := h.2.2.1
    have HR : Hid (∀ w', Below w.heap.size w w' → Calls Tryd.prog 17 #[v] w' fun e w'' => ∃ g, e = .returned (.slice (some ⟨g, 0, none⟩) n n) ∧ w'.heap.size ≤ g ∧ Hid (IOwn w'' g n zs) ∧ Hid (Below w'.heap.size w' w'')) := fun w' hb => toI_any v n zs w' (h.below hb (Nat.le_refl _)) hn
    have HS : Hid (∀ w' g, IOwn w' g n zs → Calls Tryd.prog 16 #[.slice (some ⟨g, 0, none⟩) n n] w' fun e w'' => e = .returned (.tuple #[.string ⟨(tres zs).1.toArray⟩, .bool (tres zs).2]) ∧ Hid (Below w'.heap.size w' w'')) := fun w' g ho => spec_text _ n zs w' (ho.row hm HW.out) hn
    have HI : Hid (∀ w' g, Below w.heap.size w w' → IOwn w' g n zs → Calls Tryd.prog 18 #[.slice (some ⟨g, 0, none⟩) n n] w' fun e w'' => e = .returned (.tuple #[.string ⟨(tres zs).1.toArray⟩, .bool (tres zs).2]) ∧ Hid (Below w'.heap.size w' w'')) := fun w' g hb ho => impl_text _ n zs w' (ho.row hm HW.out) hn (hT.on hb).here
    clear h htab hT
    generalize tres zs = p at *
    obtain ⟨t, b⟩ := p
    subst hv
    go_enter Tryd.func6, Tryd.ntmps6
    go_wp2_with (go_at_call 17; refine (HR.out _ (Below.refl _ _)).mono ?_; rintro e w1 ⟨g1, rfl, hg1, H1, HB1⟩; refine Hid.out ?_)
    refine Lib.hid ?_
    go_wp2_with (go_at_call 16; refine (HS.out _ g1 H1.out).mono ?_; rintro e w2 ⟨rfl, HB2⟩; refine Hid.out ?_)
    refine Lib.hid ?_
    have HC2 : Hid (Below w.heap.size w w2) := HB1.out.trans (HB2.out.mono HB1.out.size)
    clear HB1 HB2 H1 hg1
    go_wp2_with (go_at_call 17; refine (HR.out _ HC2.out).mono ?_; rintro e w3 ⟨g3, rfl, hg3, H3, HB3⟩; refine Hid.out ?_)
    refine Lib.hid ?_
    have HC3 : Hid (Below w.heap.size w w3) := HC2.out.trans (HB3.out.mono HC2.out.size)
    clear HB3
    go_wp2_with (go_at_call 18; refine (HI.out _ g3 HC3.out H3.out).mono ?_; rintro e w4 ⟨rfl, HB4⟩; refine Hid.out ?_)
    refine Lib.hid ?_
    have HC4 : Hid (Below w.heap.size w w4) := HC3.out.trans (HB4.out.mono HC3.out.size)
    have H4 : Hid (IOwn w4 g3 n zs) := H3.out.below HB4.out H3.out.2.1
    have hg4 : g3 < w4.heap.size := H4.out.2.1
    clear HB4 H3 HC3 HC2
    cases b
    all_goals (
      go_wp2_with (go_at_call 17; refine (HR.out _ HC4.out).mono ?_; rintro e w5 ⟨g5, rfl, hg5, H5, HB5⟩; refine Hid.out ?_)
      refine Lib.hid ?_
      have HC5 : Hid (Below w.heap.size w w5) := HC4.out.trans (HB5.out.mono HC4.out.size)
      have HR3 := Lib.hid ((H4.out.below HB5.out hg4).row hm HW.out)
      have HR5 := Lib.hid (H5.out.row hm HW.out)
      clear HB5
      go_wp2_with (go_at_call 13; refine (eqI_any _ _ n zs w5 HR3.out HR5.out hn).mono ?_; rintro e w6 ⟨rfl, m, rfl⟩; refine Hid.out ?_)
      refine Lib.hid ?_
      go_wp2
      go_ret
      exact ⟨rfl, below_drewN HC5.out m⟩)

theorem text_row (v : Value) (n : Nat) (zs : List Int) (w : World) (h : IRow .i64 w v n zs) (hL : laidMet Tryd.prog Rows.fnExactListTextRow.laid w) (_ : w.ShapedOpen Tryd.prog) : Calls Tryd.prog 6 #[v] w fun e w' => e = .returned (.bool true) ∧ Below w.heap.size w w' :=
  text_law v n zs w h (pow10_tab hL.tail.tail)

end Go.Proofs.YtjjcljdbmgjoeaaDoor
