/- Contracts of ValidMatrix on both sides. -/
import Derived.Test.YteblbalciemkiaaMat
import Derived.IntWalk
namespace Go.Proofs.Yteblbalciemkiaa
open Go.RowKit Opn
set_option linter.unusedSimpArgs false

def sideB (x : Int) : Bool := decide (1 ≤ x) && decide (x ≤ 12)
def validB (x y : Int) (n : Nat) (zs : List Nat) : Bool := (sideB x && sideB y) && decide ((n : Int) = x * y) && allF zs

theorem side_mul {x y : Int} (hx : sideB x = true) (hy : sideB y = true) : 1 ≤ x * y ∧ x * y ≤ 144 := by
  unfold sideB at hx hy
  simp only [Bool.and_eq_true, decide_eq_true_eq] at hx hy
  have h1 := Int.mul_le_mul hx.1 hy.1 (by decide) (by omega)
  have h2 := Int.mul_le_mul hx.2 hy.2 (by omega) (by decide)
  omega

theorem in_spec (x : Int) (w : World) : Calls Try.prog 39 #[.int .i64 x, .int .i64 1, .int .i64 12] w fun e w' => e = .returned (.bool (sideB x)) ∧ w' = w := by
  unfold sideB
  by_cases h1 : 1 ≤ x
  · by_cases h2 : x ≤ 12
    · have e1 : decide (1 ≤ x) = true := decide_eq_true h1
      have e2 : decide (x ≤ 12) = true := decide_eq_true h2
      go_enter Try.func39, Try.ntmps39
      go_wp2
      go_ret
      exact ⟨by simp [e1, e2], rfl⟩
    · have e1 : decide (1 ≤ x) = true := decide_eq_true h1
      have e2 : decide (x ≤ 12) = false := decide_eq_false h2
      go_enter Try.func39, Try.ntmps39
      go_wp2
      go_ret
      exact ⟨by simp [e1, e2], rfl⟩
  · have e1 : decide (1 ≤ x) = false := decide_eq_false h1
    go_enter Try.func39, Try.ntmps39
    go_wp2
    go_ret
    exact ⟨by simp [e1], rfl⟩

theorem in_impl (x : Int) (w : World) : Calls Try.prog 48 #[.int .i64 x, .int .i64 1, .int .i64 12] w fun e w' => e = .returned (.bool (sideB x)) ∧ w' = w := by
  unfold sideB
  by_cases h1 : 1 ≤ x
  · by_cases h2 : x ≤ 12
    · have e1 : decide (1 ≤ x) = true := decide_eq_true h1
      have e2 : decide (x ≤ 12) = true := decide_eq_true h2
      go_enter Try.func48, Try.ntmps48
      go_wp2
      go_ret
      exact ⟨by simp [e1, e2], rfl⟩
    · have e1 : decide (1 ≤ x) = true := decide_eq_true h1
      have e2 : decide (x ≤ 12) = false := decide_eq_false h2
      go_enter Try.func48, Try.ntmps48
      go_wp2
      go_ret
      exact ⟨by simp [e1, e2], rfl⟩
  · have e1 : decide (1 ≤ x) = false := decide_eq_false h1
    go_enter Try.func48, Try.ntmps48
    go_wp2
    go_ret
    exact ⟨by simp [e1], rfl⟩

theorem isSide_any (x : Int) (w : World) : Calls Try.prog 41 #[.int .i64 x] w fun e w' => e = .returned (.bool (sideB x)) ∧ w' = w := by
  go_enter Try.func41, Try.ntmps41
  go_wp2_with (first | (go_at_call 48; refine (in_impl _ _).mono ?_; rintro e w' ⟨rfl, rfl⟩))
  go_ret
  exact ⟨rfl, rfl⟩

theorem sides_any (x y : Int) (w : World) : Calls Try.prog 47 #[.int .i64 x, .int .i64 y] w fun e w' => e = .returned (.bool (sideB x && sideB y)) ∧ w' = w := by
  cases hx : sideB x with
  | true =>
    have H : Hid (∀ w, Calls Try.prog 39 #[.int .i64 x, .int .i64 1, .int .i64 12] w fun e w' => e = .returned (.bool true) ∧ w' = w) := fun w => by have := in_spec x w; rwa [hx] at this
    go_enter Try.func47, Try.ntmps47
    go_wp2_with (first | (go_at_call 39; first | ((with_reducible refine (H.out _).mono ?_); rintro e w' ⟨rfl, rfl⟩) | ((with_reducible refine (in_spec y _).mono ?_); rintro e w' ⟨rfl, rfl⟩)))
    go_ret
    exact ⟨by simp, rfl⟩
  | false =>
    have H : Hid (∀ w, Calls Try.prog 39 #[.int .i64 x, .int .i64 1, .int .i64 12] w fun e w' => e = .returned (.bool false) ∧ w' = w) := fun w => by have := in_spec x w; rwa [hx] at this
    go_enter Try.func47, Try.ntmps47
    go_wp2_with (first | (go_at_call 39; first | ((with_reducible refine (H.out _).mono ?_); rintro e w' ⟨rfl, rfl⟩)))
    go_ret
    exact ⟨by simp, rfl⟩

theorem len_any (ao : Option Addr) (n cap : Nat) (w : World) (_ : n ≤ 9223372036854775807) : Calls Try.prog 58 #[.slice ao n cap] w fun e w' => e = .returned (.int .i64 n) ∧ w' = w := by
  go_enter Try.func58, Try.ntmps58
  go_wp2
  go_ret
  exact ⟨rfl, rfl⟩

set_option maxHeartbeats 2000000 in
theorem l02Is_any (b : Nat) (x y : Int) (s : Value) (n : Nat) (zs : List Nat) (w : World) (c0 : w.cell? ⟨b, 0, none⟩ = some (.int .i64 x)) (c1 : w.cell? ⟨b, 1, none⟩ = some (.int .i64 y)) (c2 : w.cell? ⟨b, 2, none⟩ = some s) (h : FRow w s n zs) (hn : n ≤ 1048576) :
    Calls Try.prog 57 #[.pointer (some ⟨b, 0, none⟩)] w fun e w' => e = .returned (.bool (validB x y n zs)) ∧ ∃ m, w' = w.drewN m := by
  have H : Hid (FRow w s n zs) := h
  obtain ⟨ao, cap, rfl⟩ : ∃ ao cap, s = .slice ao n cap := by
    rcases h.2.2.2 with ⟨h0, ao, cap, hv⟩ | ⟨h0, b, off, cap, hv, _⟩
    · exact ⟨ao, cap, by rw [hv, h0]⟩
    · exact ⟨_, cap, hv⟩
  unfold validB
  cases hs : (sideB x && sideB y) with
  | false =>
    have HS : Hid (∀ w, Calls Try.prog 47 #[.int .i64 x, .int .i64 y] w fun e w' => e = .returned (.bool false) ∧ w' = w) := fun w => by have := sides_any x y w; rwa [hs] at this
    clear h
    go_enter Try.func57, Try.ntmps57
    go_wp2_with fail
    go_quiet ((go_at_call 47; exact Calls.quiet_of_same (HS.out _)))
    go_wp2_with fail
    go_ret
    exact ⟨rfl, by repeat (first | exact ⟨0, rfl⟩ | exact ⟨_, rfl⟩ | refine drewN_ex ?_ _)⟩
  | true =>
    have HS : Hid (∀ w, Calls Try.prog 47 #[.int .i64 x, .int .i64 y] w fun e w' => e = .returned (.bool true) ∧ w' = w) := fun w => by have := sides_any x y w; rwa [hs] at this
    obtain ⟨hx, hy⟩ : sideB x = true ∧ sideB y = true := by simpa using hs
    obtain ⟨m1, m2⟩ := side_mul hx hy
    have hwr : IntKind.i64.wrap (x * y) = x * y := IntWalk.i64_in _ (by omega)
    cases he : decide ((n : Int) = x * y) with
    | false =>
      have hb : ((n : Int) == x * y) = false := beq_eq_false_iff_ne.2 (of_decide_eq_false he)
      clear h hs hx hy
      go_enter Try.func57, Try.ntmps57
      go_wp2_with fail
      go_quiet ((go_at_call 47; exact Calls.quiet_of_same (HS.out _)))
      go_wp2_with fail
      go_ret
      exact ⟨rfl, by repeat (first | exact ⟨0, rfl⟩ | exact ⟨_, rfl⟩ | refine drewN_ex ?_ _)⟩
    | true =>
      have hb : ((n : Int) == x * y) = true := beq_iff_eq.2 (of_decide_eq_true he)
      clear h hs hx hy
      go_enter Try.func57, Try.ntmps57
      go_wp2_with fail
      go_quiet (first | ((go_at_call 47; exact Calls.quiet_of_same (HS.out _))) | ((go_at_call 77; exact Calls.quiet_of (allF_spec _ _ _ _ (H.out.drewN _) hn))))
      go_wp2_with fail
      go_ret
      exact ⟨by simp, by repeat (first | exact ⟨0, rfl⟩ | exact ⟨_, rfl⟩ | refine drewN_ex ?_ _)⟩

theorem valid_spec (x y : Int) (s : Value) (n : Nat) (zs : List Nat) (w : World) (h : FRow w s n zs) (hn : n ≤ 1048576) : Calls Try.prog 29 #[.agg #[.int .i64 x, .int .i64 y, s]] w fun e w' => e = .returned (.bool (validB x y n zs)) ∧ Below w.heap.size w w' := by
  have H : Hid (FRow w s n zs) := h
  clear h
  go_enter Try.func29, Try.ntmps29
  go_wp2_with fail
  refine (l02Is_any _ x y s n zs _ (by simp [go_sem]) (by simp [go_sem]) (by simp [go_sem]) (H.out.below (B := w.heap.size) (by go_grown) (Nat.le_refl _)) hn).mono ?_
  rintro e w1 ⟨rfl, m, rfl⟩
  go_wp2_with fail
  go_ret
  exact ⟨rfl, below_drewN (by go_grown) _⟩

set_option maxHeartbeats 2000000 in
theorem valid_impl (x y : Int) (s : Value) (n : Nat) (zs : List Nat) (w : World) (h : FRow w s n zs) (hn : n ≤ 1048576) : Calls Try.prog 30 #[.agg #[.int .i64 x, .int .i64 y, s]] w fun e w' => e = .returned (.bool (validB x y n zs)) ∧ Below w.heap.size w w' := by
  have H : Hid (FRow w s n zs) := h
  obtain ⟨ao, cap, rfl⟩ : ∃ ao cap, s = .slice ao n cap := by
    rcases h.2.2.2 with ⟨h0, ao, cap, hv⟩ | ⟨h0, b, off, cap, hv, _⟩
    · exact ⟨ao, cap, by rw [hv, h0]⟩
    · exact ⟨_, cap, hv⟩
  unfold validB
  cases hx : sideB x with
  | false =>
    have HX : Hid (∀ w, Calls Try.prog 41 #[.int .i64 x] w fun e w' => e = .returned (.bool false) ∧ w' = w) := fun w => by have := isSide_any x w; rwa [hx] at this
    clear h
    go_enter Try.func30, Try.ntmps30
    go_wp2_with fail
    go_quiet ((go_at_call 41; exact Calls.quiet_of_same (HX.out _)))
    go_wp2_with fail
    go_ret
    exact ⟨rfl, below_drewN (by go_grown) _⟩
  | true =>
    have HX : Hid (∀ w, Calls Try.prog 41 #[.int .i64 x] w fun e w' => e = .returned (.bool true) ∧ w' = w) := fun w => by have := isSide_any x w; rwa [hx] at this
    cases hy : sideB y with
    | false =>
      have HY : Hid (∀ w, Calls Try.prog 41 #[.int .i64 y] w fun e w' => e = .returned (.bool false) ∧ w' = w) := fun w => by have := isSide_any y w; rwa [hy] at this
      clear h
      go_enter Try.func30, Try.ntmps30
      go_wp2_with fail
      go_quiet (first | ((go_at_call 41; with_reducible exact Calls.quiet_of_same (HX.out _))) | ((go_at_call 41; with_reducible exact Calls.quiet_of_same (HY.out _))))
      go_wp2_with fail
      go_ret
      exact ⟨rfl, below_drewN (by go_grown) _⟩
    | true =>
      have HY : Hid (∀ w, Calls Try.prog 41 #[.int .i64 y] w fun e w' => e = .returned (.bool true) ∧ w' = w) := fun w => by have := isSide_any y w; rwa [hy] at this
      obtain ⟨m1, m2⟩ := side_mul hx hy
      have hwr : IntKind.i64.wrap (x * y) = x * y := IntWalk.i64_in _ (by omega)
      have HL : Hid (∀ w, Calls Try.prog 58 #[.slice ao n cap] w fun e w' => e = .returned (.int .i64 n) ∧ w' = w) := fun w => len_any ao n cap w h.2.1
      cases he : decide ((n : Int) = x * y) with
      | false =>
        have hb : ((n : Int) == x * y) = false := beq_eq_false_iff_ne.2 (of_decide_eq_false he)
        clear h hx hy
        go_enter Try.func30, Try.ntmps30
        go_wp2_with fail
        go_quiet (first | ((go_at_call 41; with_reducible exact Calls.quiet_of_same (HX.out _))) | ((go_at_call 41; with_reducible exact Calls.quiet_of_same (HY.out _))) | ((go_at_call 58; exact Calls.quiet_of_same (HL.out _))))
        go_wp2_with fail
        go_ret
        exact ⟨rfl, below_drewN (by go_grown) _⟩
      | true =>
        have hb : ((n : Int) == x * y) = true := beq_iff_eq.2 (of_decide_eq_true he)
        clear h hx hy
        go_enter Try.func30, Try.ntmps30
        go_wp2_with fail
        have H2 := H.out.below (w' := w.alloc (.cells #[.int .i64 x, .int .i64 y, .slice ao n cap] 24)) (B := w.heap.size) (by go_grown) (Nat.le_refl _)
        have HF : Hid _ := H2
        clear H2
        go_quiet (first | ((go_at_call 41; with_reducible exact Calls.quiet_of_same (HX.out _))) | ((go_at_call 41; with_reducible exact Calls.quiet_of_same (HY.out _))) | ((go_at_call 58; exact Calls.quiet_of_same (HL.out _))) | ((go_at_call 59; refine Calls.quiet_of (allF_impl _ n zs _ ?_ hn); exact Opn.FRow.drewN HF.out _)))
        go_wp2_with fail
        go_ret
        exact ⟨by simp, below_drewN (by go_grown) _⟩

end Go.Proofs.Yteblbalciemkiaa
