/- Contracts of IsOrder on both sides, and the walk of its law. -/
import Derived.Test.YtjjcljdbmgjoeaaOrderI
namespace Go.Proofs.Ytjjcljdbmgjoeaa
open Go.RowKit Opn

theorem permB_ordB {zs : List Int} (h1 : 1 ≤ zs.length) (h2 : zs.length ≤ 12) : permB zs = ordB zs := by
  cases h : permB zs with
  | true =>
    have h : zs.mergeSort (fun x y => decide (x ≤ y)) = Ord.iota zs.length := by unfold permB at h; exact of_decide_eq_true h
    exact (ordB_true h1 h2 ((Ord.good_iff zs).2 h)).symm
  | false =>
    have h : ¬ zs.mergeSort (fun x y => decide (x ≤ y)) = Ord.iota zs.length := by unfold permB at h; exact of_decide_eq_false h
    exact (ordB_false (fun hh => h ((Ord.good_iff zs).1 hh.2))).symm

theorem side_yes (x : Int) (w : World) (h1 : 1 ≤ x) (h2 : x ≤ 12) : Calls Try.prog 17 #[.int .i64 x] w fun e w' => e = .returned (.bool true) ∧ w' = w := by
  have e1 : decide (1 ≤ x) = true := decide_eq_true h1
  have e2 : decide (x ≤ 12) = true := decide_eq_true h2
  go_enter Try.func17, Try.ntmps17
  go_wp2
  go_ret
  exact ⟨rfl, rfl⟩
theorem side_no (x : Int) (w : World) (h : ¬ (1 ≤ x ∧ x ≤ 12)) : Calls Try.prog 17 #[.int .i64 x] w fun e w' => e = .returned (.bool false) ∧ w' = w := by
  by_cases h1 : 1 ≤ x
  · have e1 : decide (1 ≤ x) = true := decide_eq_true h1
    have e2 : decide (x ≤ 12) = false := decide_eq_false (fun hh => h ⟨h1, hh⟩)
    clear h
    go_enter Try.func17, Try.ntmps17
    go_wp2
    go_ret
    exact ⟨rfl, rfl⟩
  · have e1 : decide (1 ≤ x) = false := decide_eq_false h1
    clear h
    go_enter Try.func17, Try.ntmps17
    go_wp2
    go_ret
    exact ⟨rfl, rfl⟩

theorem IRow.form {w : World} {v : Value} {n : Nat} {zs : List Int} (h : IRow .i64 w v n zs) : ∃ ao cap, v = .slice ao n cap := by
  rcases h.2.2.2 with ⟨h0, ao, cap, hv⟩ | ⟨h0, b, off, cap, hv, _⟩
  · exact ⟨ao, cap, by rw [hv, h0]⟩
  · exact ⟨_, cap, hv⟩

theorem order_impl (v : Value) (n : Nat) (zs : List Int) (w : World) (h : IRow .i64 w v n zs) (hn : n ≤ 1048576) : Calls Try.prog 8 #[v] w fun e w' => e = .returned (.bool (ordB zs)) ∧ Below w.heap.size w w' := by
  obtain ⟨ao, cap, hv⟩ := IRow.form h
  have hl := h.1
  by_cases hs : 1 ≤ n ∧ n ≤ 12
  · have HP : Hid (Calls Try.prog 19 #[v] w fun e w' => e = .returned (.bool (ordB zs)) ∧ Below w.heap.size w w') := by
      have := perm_any v n zs w h (by omega) hn
      rwa [permB_ordB (by omega) (by omega)] at this
    have HS : Hid (∀ w, Calls Try.prog 17 #[.int .i64 n] w fun e w' => e = .returned (.bool true) ∧ w' = w) := fun w => side_yes n w (by omega) (by omega)
    subst hv
    clear h hl hs
    generalize ordB zs = o at *
    go_enter Try.func8, Try.ntmps8
    go_wp2_with (first
      | (go_at_call 17; refine (HS.out _).mono ?_; rintro e w' ⟨rfl, rfl⟩)
      | (go_at_call 19; refine Calls.mono HP.out ?_; rintro e w' ⟨rfl, hb⟩)
      | go_in)
    go_ret
    exact ⟨rfl, hb⟩
  · have HS : Hid (∀ w, Calls Try.prog 17 #[.int .i64 n] w fun e w' => e = .returned (.bool false) ∧ w' = w) := fun w => side_no n w (by omega)
    rw [ordB_false (by omega)]
    subst hv
    clear h hl hs
    go_enter Try.func8, Try.ntmps8
    go_wp2_with (first
      | (go_at_call 17; refine (HS.out _).mono ?_; rintro e w' ⟨rfl, rfl⟩)
      | go_in)
    go_ret
    exact ⟨rfl, Below.refl _ _⟩

theorem orderS_any (v : Value) (n : Nat) (zs : List Int) (w : World) (h : IRow .i64 w v n zs) (hn : n ≤ 1048576) : Calls Try.prog 6 #[v] w fun e w' => e = .returned (.bool (ordB zs)) ∧ Below w.heap.size w w' := by
  have HP : Hid (Calls Try.prog 16 #[v] w fun e w' => e = .returned (.bool (ordB zs)) ∧ Below w.heap.size w w') := order_spec v n zs w h hn
  obtain ⟨ao, cap, hv⟩ := IRow.form h
  subst hv
  clear h
  generalize ordB zs = o at *
  go_enter Try.func6, Try.ntmps6
  go_wp2_with (go_at_call 16; refine Calls.mono HP.out ?_; rintro e w' ⟨rfl, hb⟩)
  go_ret
  exact ⟨rfl, hb⟩

set_option maxHeartbeats 4000000 in
theorem isOrder_walk (v : Value) (n : Nat) (zs : List Int) (w : World) (h : IRow .i64 w v n zs) : Calls Try.prog 3 #[v] w fun e w' => e = .returned (.bool true) ∧ Below w.heap.size w w' := by
  obtain ⟨ao, cap, hv⟩ := IRow.form h
  have hmx : n ≤ maxLen := h.2.1
  have hmx2 : n ≤ 9223372036854775807 := hmx
  have HZ : Hid (∀ z ∈ zs, (Lit.int .i64 z).wf = true) := h.2.2.1
  have HR : Hid (IRow .i64 w v n zs) := h
  subst hv
  clear h
  by_cases hn : n ≤ 1048576
  · go_enter Try.func3, Try.ntmps3
    go_wp2_with fail
    refine (toI_any _ n zs _ HR.out hn).mono ?_
    rintro e w1 ⟨g1, rfl, hg1, ho1, hb1⟩
    have HB1 : Hid (Below w.heap.size w w1) := hb1
    have HO1 : Hid (IRow .i64 w1 (.slice (some ⟨g1, 0, none⟩) n n) n zs) := ho1.row hmx HZ.out
    clear hg1 ho1 hb1
    go_wp2_with fail
    refine (orderS_any _ n zs _ HO1.out hn).mono ?_
    rintro e w2 ⟨rfl, hb2⟩
    have HB2 : Hid (Below w.heap.size w w2) := HB1.out.trans (hb2.mono HB1.out.size)
    clear hb2
    go_wp2_with fail
    refine (toI_any _ n zs _ (HR.out.below HB2.out (Nat.le_refl _)) hn).mono ?_
    rintro e w3 ⟨g3, rfl, hg3, ho3, hb3⟩
    have HB3 : Hid (Below w.heap.size w w3) := HB2.out.trans (hb3.mono HB2.out.size)
    have HO3 : Hid (IRow .i64 w3 (.slice (some ⟨g3, 0, none⟩) n n) n zs) := ho3.row hmx HZ.out
    clear hg3 ho3 hb3
    go_wp2_with fail
    refine (order_impl _ n zs _ HO3.out hn).mono ?_
    rintro e w4 ⟨rfl, hb4⟩
    have HB4 : Hid (Below w.heap.size w w4) := HB3.out.trans (hb4.mono HB3.out.size)
    have HO4 : Hid (IRow .i64 w4 (.slice (some ⟨g3, 0, none⟩) n n) n zs) := HO3.out.below hb4 (Nat.le_refl _)
    clear hb4
    generalize ordB zs = o at *
    have hoo : (o != o) = false := by simp
    go_wp2_with fail
    refine (toI_any _ n zs _ (HR.out.below HB4.out (Nat.le_refl _)) hn).mono ?_
    rintro e w5 ⟨g5, rfl, hg5, ho5, hb5⟩
    have HB5 : Hid (Below w.heap.size w w5) := HB4.out.trans (hb5.mono HB4.out.size)
    have HO5 : Hid (IRow .i64 w5 (.slice (some ⟨g5, 0, none⟩) n n) n zs) := ho5.row hmx HZ.out
    have HO6 : Hid (IRow .i64 w5 (.slice (some ⟨g3, 0, none⟩) n n) n zs) := HO4.out.below hb5 (Nat.le_refl _)
    clear hg5 ho5 hb5
    go_wp2_with fail
    refine (eqI_any _ _ n zs _ HO6.out HO5.out hn).mono ?_
    rintro e w6 ⟨rfl, m, rfl⟩
    go_wp2_with fail
    go_ret
    exact ⟨rfl, below_drewN HB5.out _⟩
  · have hd : decide ((1048576 : Int) < (n : Int)) = true := decide_eq_true (by omega)
    go_enter Try.func3, Try.ntmps3
    go_wp2_with fail
    go_ret
    exact ⟨rfl, Below.refl _ _⟩

end Go.Proofs.Ytjjcljdbmgjoeaa
