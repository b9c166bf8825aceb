/- Contracts of math.Copysign at zero and of FlushNumber, and the walk of its law. -/
import Derived.Test.YthmppdaddnnjdaaSubn
import Derived.Test.YthmppdaddnnjdaaSame
namespace Go.Proofs.Ythmppdaddnnjdaa
open Go.RowKit

theorem copysign_zero (y : Nat) (w : World) (hy : y < 18446744073709551616) : Calls Try.prog 37 #[.float .f64 0, .float .f64 y] w fun e w' => e = .returned (.float .f64 (y / 9223372036854775808 * 9223372036854775808)) ∧ w' = w := by
  have b1 : bits .andNot .u64 0 9223372036854775808 = 0 := by decide +kernel
  have b2 : bits .and .u64 (y : Int) 9223372036854775808 = ((y / 9223372036854775808 * 9223372036854775808 : Nat) : Int) := by
    have := u64_and_nat y 9223372036854775808 hy (by decide)
    rw [show ((9223372036854775808 : Nat) : Int) = 9223372036854775808 from rfl] at this
    rw [this, show (9223372036854775808 : Nat) = 2 ^ 64 - 2 ^ 63 from rfl, nat_midmask 64 63 y (by decide), Nat.mod_eq_of_lt (by omega)]
  have b3 : bits .or .u64 0 ((y / 9223372036854775808 * 9223372036854775808 : Nat) : Int) = ((y / 9223372036854775808 * 9223372036854775808 : Nat) : Int) := by
    have := u64_or_nat 0 (y / 9223372036854775808 * 9223372036854775808) (by decide) (by omega)
    simpa using this
  generalize y / 9223372036854775808 * 9223372036854775808 = z at *
  clear hy
  go_enter Try.func37, Try.ntmps37
  go_wp2
  go_ret
  exact ⟨by simp, rfl⟩

def flB (x : Nat) : Nat := if expB x then x / 2147483648 * 2147483648 else x

theorem sign_W (x r : Nat) (hs : subB x = true) (h : Flt.Fl .f64 (Flt.wid (Flt.cls .f32 x)) r) (hx : x < 4294967296) : r / 9223372036854775808 * 9223372036854775808 = (if x / 2147483648 = 0 then 0 else 9223372036854775808) := by
  have hr : Flt.rung FloatKind.f32.format x ≤ FloatKind.f32.format.infRung := by
    have : FloatKind.f32.format.infRung = 2139095040 := by decide
    unfold subB at hs
    rw [decide_eq_true_iff] at hs
    omega
  have e : Flt.cls .f32 x = some x := by unfold Flt.cls; rw [if_neg (by omega)]
  have hc := h.cls
  rw [e] at hc
  obtain ⟨e2, h2⟩ := Flt.cls_some hc
  have e3 : r = Flt.W x := e2.symm
  have hl := h.lt
  have hl' : r < 18446744073709551616 := hl
  have hsg := Flt.sgn_W x hr
  rw [← e3] at hsg
  have h1 : (r / 9223372036854775808 % 2 == 1) = (x / 2147483648 % 2 == 1) := hsg
  rw [Bool.eq_iff_iff, beq_iff_eq, beq_iff_eq] at h1
  split <;> omega

theorem narrow_zero (w : World) : Flt.cB .f64 .f32 0 w = 0 := by
  unfold Flt.cB; rw [show FloatKind.f64.decode 0 = .number false 0 (-1074) by decide +kernel]
  show (if _ = true then _ else _) = _
  rw [if_neg (by decide +kernel)]; decide +kernel
theorem narrow_negzero (w : World) : Flt.cB .f64 .f32 9223372036854775808 w = 2147483648 := by
  unfold Flt.cB; rw [show FloatKind.f64.decode 9223372036854775808 = .number true 0 (-1074) by decide +kernel]
  show (if _ = true then _ else _) = _
  rw [if_neg (by decide +kernel)]; decide +kernel

theorem flush_impl (x : Nat) (w : World) (hx : x < 4294967296) : Calls Try.prog 19 #[.float .f32 x] w fun e w' => e = .returned (.float .f32 (flB x)) ∧ ∃ m, w' = w.drewN m := by
  cases hs : subB x with
  | true =>
    have hf : flB x = if x / 2147483648 = 0 then 0 else 2147483648 := by
      have he : expB x = true := by rw [sub_eq] at hs; simp at hs; exact hs.2
      unfold flB; rw [he]; simp only [if_true]; split <;> omega
    rw [hf]
    have h3 := fun w => sign_W x _ hs (Flt.widen_Fl x w) hx
    have h4 := fun w => (Flt.widen_Fl x w).lt
    have h5 := narrow_zero
    have h6 := narrow_negzero
    clear hx hf
    by_cases hz : x / 2147483648 = 0
    · rw [if_pos hz]
      simp only [if_pos hz] at h3
      clear hz
      go_enter Try.func19, Try.ntmps19
      go_wp2_with (first | (go_at_call 17; refine (isSubnormal_impl _ _).mono ?_; rw [hs]; rintro e w' ⟨rfl, m, rfl⟩) | (go_at_call 37; refine (copysign_zero _ _ (h4 _)).mono ?_; rw [h3]; rintro e w' ⟨rfl, rfl⟩))
      go_ret
      exact ⟨rfl, _, rfl⟩
    · rw [if_neg hz]
      simp only [if_neg hz] at h3
      clear hz
      go_enter Try.func19, Try.ntmps19
      go_wp2_with (first | (go_at_call 17; refine (isSubnormal_impl _ _).mono ?_; rw [hs]; rintro e w' ⟨rfl, m, rfl⟩) | (go_at_call 37; refine (copysign_zero _ _ (h4 _)).mono ?_; rw [h3]; rintro e w' ⟨rfl, rfl⟩))
      go_ret
      exact ⟨rfl, _, rfl⟩
  | false =>
    have hf : flB x = x := by
      unfold flB
      cases he : expB x with
      | false => rfl
      | true =>
        simp only [if_true]
        rw [sub_eq, he] at hs
        simp at hs
        have hr : Flt.rung FloatKind.f32.format x = x % 2147483648 := rfl
        omega
    rw [hf]
    clear hx hf
    go_enter Try.func19, Try.ntmps19
    go_wp2_with (first | (go_at_call 17; refine (isSubnormal_impl _ _).mono ?_; rw [hs]; rintro e w' ⟨rfl, m, rfl⟩))
    go_ret
    exact ⟨rfl, _, rfl⟩

theorem flush_spec (x : Nat) (w : World) (hx : x < 4294967296) : Calls Try.prog 36 #[.float .f32 x] w fun e w' => e = .returned (.float .f32 (flB x)) ∧ w' = w := by
  have h2 := exp_zero x hx
  have hl : ((bitsOf x : Nat) : Int) < 4294967296 := by have := bitsOf_lt x hx; omega
  cases he : expB x with
  | true =>
    have hbx : bitsOf x = x := by
      unfold bitsOf; rw [if_neg]
      unfold expB at he
      rw [decide_eq_true_iff] at he
      have : FloatKind.f32.format.infRung = 2139095040 := by decide
      omega
    have h3 := sign_bits x hx
    have hf : flB x = x / 2147483648 * 2147483648 := by unfold flB; rw [he]; rfl
    rw [hf]
    rw [he] at h2
    have hq : ((x / 2147483648 * 2147483648 : Nat) : Int) < 4294967296 := by omega
    rw [hbx] at h2 hl
    generalize hz : x / 2147483648 * 2147483648 = z at *
    clear hz he hf
    go_enter Try.func36, Try.ntmps36
    go_wp2_with (first | (go_at_call 33; refine (bits_spec _ _ hx).mono ?_; rw [hbx]; rintro e w' ⟨rfl, rfl⟩) | go_in)
    go_ret
    exact ⟨by simp, rfl⟩
  | false =>
    have hf : flB x = x := by unfold flB; rw [he]; rfl
    rw [hf]
    rw [he] at h2
    clear he hf
    go_enter Try.func36, Try.ntmps36
    go_wp2_with (first | (go_at_call 33; refine (bits_spec _ _ hx).mono ?_; rintro e w' ⟨rfl, rfl⟩) | go_in)
    go_ret
    exact ⟨rfl, rfl⟩

theorem flush_walk (x : Nat) (w : World) (hx0 : (Lit.float .f32 x).wf = true) : Calls Try.prog 6 #[.float .f32 x] w fun e w' => e = .returned (.bool true) ∧ Below w.heap.size w w' := by
  have hx : x < 4294967296 := by simpa [Lit.wf] using hx0
  clear hx0
  generalize hb : flB x = b
  have Hb : Hid _ := hb
  clear hb
  go_enter Try.func6, Try.ntmps6
  go_wp2_with (first | (go_at_call 36; refine (flush_spec _ _ hx).mono ?_; rw [Hb.out]; rintro e w' ⟨rfl, rfl⟩) | (go_at_call 19; refine (flush_impl _ _ hx).mono ?_; rw [Hb.out]; rintro e w' ⟨rfl, m, rfl⟩) | (go_at_call 15; refine (sameFloat_any _ _ _ _ (Flt.widen_Fl _ _) (Flt.widen_Fl _ _)).mono ?_; rintro e w' ⟨rfl, rfl⟩) | go_in)
  go_ret
  exact ⟨rfl, by repeat (first | exact Below.refl _ _ | refine below_drewN ?_ _)⟩

end Go.Proofs.Ythmppdaddnnjdaa
