/- Contracts of SameMatrix on both sides. -/
import Derived.Test.YteblbalciemkiaaSameRow
namespace Go.Proofs.Yteblbalciemkiaa
open Go.RowKit Opn
set_option linter.unusedSimpArgs false

noncomputable def sameM (x y : Int) (zs : List Nat) (x' y' : Int) (ys : List Nat) : Bool := (decide (x = x') && decide (y = y')) && sameL zs ys

set_option maxHeartbeats 2000000 in
theorem l02Same_any (b b' : Nat) (x y x' y' : Int) (s s' : Value) (n n' : Nat) (zs ys : List Nat) (w : World) (c0 : w.cell? ⟨b, 0, none⟩ = some (.int .i64 x)) (c1 : w.cell? ⟨b, 1, none⟩ = some (.int .i64 y)) (c2 : w.cell? ⟨b, 2, none⟩ = some s)
    (d0 : w.cell? ⟨b', 0, none⟩ = some (.int .i64 x')) (d1 : w.cell? ⟨b', 1, none⟩ = some (.int .i64 y')) (d2 : w.cell? ⟨b', 2, none⟩ = some s') (h : FRow w s n zs) (h' : FRow w s' n' ys) (hn : n ≤ 1048576) (hn' : n' ≤ 1048576) :
    Calls Try.prog 56 #[.pointer (some ⟨b, 0, none⟩), .pointer (some ⟨b', 0, none⟩)] w fun e w' => e = .returned (.bool (sameM x y zs x' y' ys)) ∧ ∃ m, w' = w.drewN m := by
  have H : Hid (FRow w s n zs) := h
  have H' : Hid (FRow w s' n' ys) := h'
  clear h h'
  unfold sameM
  by_cases hx : x = x'
  · have ex : decide (x = x') = true := decide_eq_true hx
    have bx : (x == x') = true := beq_iff_eq.2 hx
    by_cases hy : y = y'
    · have ey : decide (y = y') = true := decide_eq_true hy
      have bY : (y == y') = true := beq_iff_eq.2 hy
      rw [ex, ey]
      subst hx hy
      clear ex ey bx bY
      go_enter Try.func56, Try.ntmps56
      go_wp2_with fail
      go_quiet ((go_at_call 74; exact Calls.quiet_of (sameAll_spec _ _ _ _ _ _ _ (H.out.drewN _) (H'.out.drewN _) hn hn')))
      go_wp2_with fail
      go_ret
      exact ⟨by simp, by repeat (first | exact ⟨0, rfl⟩ | exact ⟨_, rfl⟩ | refine drewN_ex ?_ _)⟩
    · have ey : decide (y = y') = false := decide_eq_false hy
      have bY : (y == y') = false := beq_eq_false_iff_ne.2 hy
      rw [ex, ey]
      subst hx
      clear ex ey bx hy
      go_enter Try.func56, Try.ntmps56
      go_wp2_with fail
      go_quiet (fail)
      go_wp2_with fail
      go_ret
      exact ⟨by simp, by repeat (first | exact ⟨0, rfl⟩ | exact ⟨_, rfl⟩ | refine drewN_ex ?_ _)⟩
  · have ex : decide (x = x') = false := decide_eq_false hx
    have bx : (x == x') = false := beq_eq_false_iff_ne.2 hx
    rw [ex]
    clear ex hx
    go_enter Try.func56, Try.ntmps56
    go_wp2_with fail
    go_quiet (fail)
    go_wp2_with fail
    go_ret
    exact ⟨by simp, by repeat (first | exact ⟨0, rfl⟩ | exact ⟨_, rfl⟩ | refine drewN_ex ?_ _)⟩

theorem sameM_spec (x y x' y' : Int) (s s' : Value) (n n' : Nat) (zs ys : List Nat) (w : World) (h : FRow w s n zs) (h' : FRow w s' n' ys) (hn : n ≤ 1048576) (hn' : n' ≤ 1048576) :
    Calls Try.prog 26 #[.agg #[.int .i64 x, .int .i64 y, s], .agg #[.int .i64 x', .int .i64 y', s']] w fun e w' => e = .returned (.bool (sameM x y zs x' y' ys)) ∧ Below w.heap.size w w' := by
  have H : Hid (FRow w s n zs) := h
  have H' : Hid (FRow w s' n' ys) := h'
  clear h h'
  go_enter Try.func26, Try.ntmps26
  go_wp2_with fail
  refine (l02Same_any _ _ x y x' y' s s' n n' zs ys _ (by simp [go_sem]) (by simp [go_sem]) (by simp [go_sem]) (by simp [go_sem]) (by simp [go_sem]) (by simp [go_sem]) (H.out.below (B := w.heap.size) (by go_grown) (Nat.le_refl _)) (H'.out.below (B := w.heap.size) (by go_grown) (Nat.le_refl _)) hn hn').mono ?_
  rintro e w1 ⟨rfl, m, rfl⟩
  go_wp2_with fail
  go_ret
  exact ⟨rfl, below_drewN (by go_grown) _⟩

set_option maxHeartbeats 2000000 in
theorem sameM_impl (x y x' y' : Int) (s s' : Value) (n n' : Nat) (zs ys : List Nat) (w : World) (h : FRow w s n zs) (h' : FRow w s' n' ys) (hn : n ≤ 1048576) (hn' : n' ≤ 1048576) :
    Calls Try.prog 28 #[.agg #[.int .i64 x, .int .i64 y, s], .agg #[.int .i64 x', .int .i64 y', s']] w fun e w' => e = .returned (.bool (sameM x y zs x' y' ys)) ∧ Below w.heap.size w w' := by
  have H : Hid (FRow w s n zs) := h
  have H' : Hid (FRow w s' n' ys) := h'
  clear h h'
  unfold sameM
  by_cases hx : x = x'
  · have ex : decide (x = x') = true := decide_eq_true hx
    by_cases hy : y = y'
    · have ey : decide (y = y') = true := decide_eq_true hy
      rw [ex, ey]
      subst hx hy
      clear ex ey
      go_enter Try.func28, Try.ntmps28
      go_wp2_with fail
      refine (sameAll_impl _ _ _ _ _ _ _ (H.out.below (B := w.heap.size) (by go_grown) (Nat.le_refl _)) (H'.out.below (B := w.heap.size) (by go_grown) (Nat.le_refl _)) hn hn').mono ?_
      rintro e w1 ⟨rfl, m, rfl⟩
      go_wp2_with fail
      go_ret
      exact ⟨by simp, below_drewN (by go_grown) _⟩
    · have ey : decide (y = y') = false := decide_eq_false hy
      have bY : (y == y') = false := beq_eq_false_iff_ne.2 hy
      rw [ex, ey]
      subst hx
      clear ex ey hy
      go_enter Try.func28, Try.ntmps28
      go_wp2_with fail
      go_ret
      exact ⟨by simp, by go_grown⟩
  · have ex : decide (x = x') = false := decide_eq_false hx
    have bx : (x == x') = false := beq_eq_false_iff_ne.2 hx
    rw [ex]
    clear ex hx
    go_enter Try.func28, Try.ntmps28
    go_wp2_with fail
    go_ret
    exact ⟨by simp, by go_grown⟩

end Go.Proofs.Yteblbalciemkiaa
