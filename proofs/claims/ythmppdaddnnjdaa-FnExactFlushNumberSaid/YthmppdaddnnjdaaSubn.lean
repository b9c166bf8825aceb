/- Contracts of math.Ldexp at (1, -126), of math.Copysign at zero, and of the tests for subnormal numbers. -/
import Derived.Test.YthmppdaddnnjdaaFin
namespace Go.Proofs.Ythmppdaddnnjdaa
open Go.RowKit

theorem ldexp_least (w : World) : Calls Try.prog 35 #[.float .f64 4607182418800017408, .int .i64 (-126)] w fun e w' => e = .returned (.float .f64 4039728865751334912) ∧ w' = w := by
  have h1 : (FloatKind.f64.format.order 4607182418800017408 0 == some .eq) = false := by decide +kernel
  have h2 : (FloatKind.f64.format.order 4607182418800017408 4607182418800017408 != some .eq) = false := by decide +kernel
  have h3 : (FloatKind.f64.format.order 4607182418800017408 9218868437227405311 == some .gt) = false := by decide +kernel
  have h4 : (FloatKind.f64.format.order 4607182418800017408 4503599627370496 == some .lt) = false := by decide +kernel
  have h5 : absB 4607182418800017408 = 4607182418800017408 := by decide +kernel
  have h6 : ∀ w, Flt.fB .mul .f64 4607182418800017408 4039728865751334912 w = 4039728865751334912 := fun w => by
    unfold Flt.fB; rw [show floatBits .mul .f64 4607182418800017408 4039728865751334912 = some 4039728865751334912 by decide +kernel]; rfl
  have h7 : Flt.fN .mul .f64 4607182418800017408 4039728865751334912 = 0 := by decide +kernel
  have b1 : bits .and .i64 1023 2047 = 1023 := by decide +kernel
  have b2 : bits .andNot .u64 4607182418800017408 9218868437227405312 = 0 := by decide +kernel
  have b3 : bits .or .u64 0 4039728865751334912 = 4039728865751334912 := by decide +kernel
  go_enter Try.func35, Try.ntmps35
  go_wp2_with (first | (go_at_call 34; refine (abs_any _ _ (by decide)).mono ?_; rw [h5]; rintro e w' ⟨rfl, rfl⟩) | go_in)
  go_ret
  exact ⟨rfl, rfl⟩


@[go_sem] theorem call_Float32bits (x : Nat) (w : World) : (callFunc 50 #[.float .f32 x]).run Try.prog w = .ok (.value (.int .u32 x)) w := by kernel_rfl
@[go_sem] theorem call_Float32frombits (n : Int) (w : World) : (callFunc 61 #[.int .u32 n]).run Try.prog w = .ok (.value (.float .f32 n.toNat)) w := by kernel_rfl

def subB (x : Nat) : Bool := decide (0 < Flt.rung FloatKind.f32.format x ∧ Flt.rung FloatKind.f32.format x < 8388608)
def bitsOf (x : Nat) : Nat := if FloatKind.f32.format.infRung < Flt.rung FloatKind.f32.format x then 2143289344 else x
def expB (x : Nat) : Bool := decide (Flt.rung FloatKind.f32.format x < 8388608)

theorem i64_and_nat (a b : Nat) (ha : a < 9223372036854775808) (hb : b < 9223372036854775808) : bits .and .i64 (a : Int) (b : Int) = ((a &&& b : Nat) : Int) := by
  have hx : a &&& b < 2 ^ 63 := Nat.and_lt_two_pow _ (by omega)
  show IntKind.i64.wrap ((BitVec.ofInt 64 (a : Int) &&& BitVec.ofInt 64 (b : Int)).toNat : Int) = _
  rw [BitVec.toNat_and, ofInt_u64 a (by omega), ofInt_u64 b (by omega), IntKind.wrap_i64]
  omega

theorem exp_bits (x : Nat) (hx : x < 4294967296) : bits .and .i64 (x : Int) 2139095040 = ((x % 2147483648 / 8388608 * 8388608 : Nat) : Int) := by
  have := i64_and_nat x 2139095040 (by omega) (by decide)
  rw [show ((2139095040 : Nat) : Int) = 2139095040 from rfl] at this
  rw [this, show (2139095040 : Nat) = 2 ^ 31 - 2 ^ 23 from rfl, nat_midmask 31 23 x (by decide)]

theorem sign_bits (x : Nat) (hx : x < 4294967296) : bits .and .i64 (x : Int) 2147483648 = ((x / 2147483648 * 2147483648 : Nat) : Int) := by
  have := i64_and_nat x 2147483648 (by omega) (by decide)
  rw [show ((2147483648 : Nat) : Int) = 2147483648 from rfl] at this
  rw [this, show (2147483648 : Nat) = 2 ^ 32 - 2 ^ 31 from rfl, nat_midmask 32 31 x (by decide), Nat.mod_eq_of_lt (by omega)]

theorem bitsOf_lt (x : Nat) (hx : x < 4294967296) : bitsOf x < 4294967296 := by unfold bitsOf; split <;> omega

theorem exp_zero (x : Nat) (hx : x < 4294967296) : (bits .and .i64 ((bitsOf x : Nat) : Int) 2139095040 == (0 : Int)) = expB x := by
  rw [exp_bits _ (bitsOf_lt x hx), Bool.eq_iff_iff, beq_iff_eq]
  unfold bitsOf expB
  rw [decide_eq_true_iff]
  have hi : FloatKind.f32.format.infRung = 2139095040 := by decide
  have hr : Flt.rung FloatKind.f32.format x = x % 2147483648 := rfl
  rw [hi, hr]
  split <;> omega

theorem bits_spec (x : Nat) (w : World) (hx : x < 4294967296) : Calls Try.prog 33 #[.float .f32 x] w fun e w' => e = .returned (.int .i64 ((bitsOf x : Nat) : Int)) ∧ w' = w := by
  have hx' : (x : Int) < 4294967296 := by omega
  by_cases h : FloatKind.f32.format.infRung < Flt.rung FloatKind.f32.format x
  · have hn : (FloatKind.f32.format.order x x != some .eq) = true := by rw [Flt.order_nan_left _ (Flt.ok _) _ _ h]; rfl
    have hb : bitsOf x = 2143289344 := by unfold bitsOf; rw [if_pos h]
    rw [hb]
    clear h hx hb
    go_enter Try.func33, Try.ntmps33
    go_wp2
    go_ret
    exact ⟨rfl, rfl⟩
  · have hn : (FloatKind.f32.format.order x x != some .eq) = false := by rw [bne, Flt.feq (by omega) (by omega)]; simp
    have hb : bitsOf x = x := by unfold bitsOf; rw [if_neg h]
    rw [hb]
    clear h hx hb
    go_enter Try.func33, Try.ntmps33
    go_wp2
    go_ret
    exact ⟨rfl, rfl⟩

theorem neq_zero (x : Nat) : (FloatKind.f32.format.order x 0 != some .eq) = !decide (Flt.rung FloatKind.f32.format x = 0) := by
  by_cases h : FloatKind.f32.format.infRung < Flt.rung FloatKind.f32.format x
  · rw [Flt.order_nan_left _ (Flt.ok _) _ _ h, decide_eq_false (by omega)]; rfl
  · rw [bne, Flt.feq (by omega) (by decide)]
    congr 1
    have := Flt.srung_zero_iff FloatKind.f32.format x
    have h0 : Flt.srung FloatKind.f32.format 0 = 0 := by decide
    rw [h0, Bool.eq_iff_iff, decide_eq_true_iff, decide_eq_true_iff]
    exact this

theorem sub_eq (x : Nat) : subB x = (!decide (Flt.rung FloatKind.f32.format x = 0) && expB x) := by
  unfold subB expB
  rw [Bool.eq_iff_iff]; simp; omega

theorem isSubnormal_spec (x : Nat) (w : World) (hx : x < 4294967296) : Calls Try.prog 16 #[.float .f32 x] w fun e w' => e = .returned (.bool (subB x)) ∧ w' = w := by
  have h1 := neq_zero x
  have h2 := exp_zero x hx
  have hl : ((bitsOf x : Nat) : Int) < 4294967296 := by have := bitsOf_lt x hx; omega
  rw [sub_eq]
  generalize expB x = b at *
  generalize decide (Flt.rung FloatKind.f32.format x = 0) = c at *
  cases c
  · go_enter Try.func16, Try.ntmps16
    go_wp2_with (first | (go_at_call 33; refine (bits_spec _ _ hx).mono ?_; rintro e w' ⟨rfl, rfl⟩) | go_in)
    go_ret
    exact ⟨rfl, rfl⟩
  · go_enter Try.func16, Try.ntmps16
    go_wp2
    go_ret
    exact ⟨rfl, rfl⟩


theorem abs_W_lt (x r : Nat) (h : Flt.Fl .f64 (Flt.wid (Flt.cls .f32 x)) r) : (FloatKind.f64.format.order (absB r) 4039728865751334912 == some .lt) = expB x := by
  have hc := h.cls
  by_cases hr : FloatKind.f32.format.infRung < Flt.rung FloatKind.f32.format x
  · have e : Flt.cls .f32 x = none := by unfold Flt.cls; rw [if_pos hr]
    rw [e] at hc
    have hn := Flt.cls_none hc
    rw [Flt.order_nan_left _ (Flt.ok _) _ _ (by rw [rung_absB]; exact hn)]
    unfold expB
    rw [decide_eq_false]
    · rfl
    · have : FloatKind.f32.format.infRung = 2139095040 := by decide
      omega
  · have e : Flt.cls .f32 x = some x := by unfold Flt.cls; rw [if_neg hr]
    rw [e] at hc
    obtain ⟨e2, h2⟩ := Flt.cls_some hc
    have e3 : r = Flt.W x := e2.symm
    subst e3
    rw [Flt.flt (by rw [rung_absB]; exact h2) (by decide +kernel), srung_absB]
    have hw : Flt.W 8388608 = 4039728865751334912 := by decide +kernel
    have hs : Flt.srung FloatKind.f64.format 4039728865751334912 = (Flt.rung FloatKind.f64.format (Flt.W 8388608) : Int) := by rw [hw]; decide +kernel
    rw [hs]
    have := Flt.W_lt_iff x 8388608 (by omega) (by decide)
    have h8 : Flt.rung FloatKind.f32.format 8388608 = 8388608 := by decide
    unfold expB
    rw [Bool.eq_iff_iff, decide_eq_true_iff, decide_eq_true_iff]
    omega

theorem isSubnormal_impl (x : Nat) (w : World) : Calls Try.prog 17 #[.float .f32 x] w fun e w' => e = .returned (.bool (subB x)) ∧ ∃ m, w' = w.drewN m := by
  have h1 := neq_zero x
  have h3 := fun w => abs_W_lt x _ (Flt.widen_Fl x w)
  have h4 := fun w => (Flt.widen_Fl x w).lt
  rw [sub_eq]
  generalize expB x = b at *
  generalize decide (Flt.rung FloatKind.f32.format x = 0) = c at *
  cases c
  · go_enter Try.func17, Try.ntmps17
    go_wp2_with (first | (go_at_call 34; refine (abs_any _ _ (h4 _)).mono ?_; rintro e w' ⟨rfl, rfl⟩) | (go_at_call 35; refine (ldexp_least _).mono ?_; rintro e w' ⟨rfl, rfl⟩))
    go_ret
    exact ⟨rfl, _, rfl⟩
  · go_enter Try.func17, Try.ntmps17
    go_wp2
    go_ret
    exact ⟨rfl, 0, rfl⟩

theorem isSubnormal_walk (x : Nat) (w : World) (hx0 : (Lit.float .f32 x).wf = true) : Calls Try.prog 5 #[.float .f32 x] w fun e w' => e = .returned (.bool true) ∧ Below w.heap.size w w' := by
  have hx : x < 4294967296 := by simpa [Lit.wf] using hx0
  clear hx0
  generalize hb : subB x = b
  have Hb : Hid _ := hb
  clear hb
  go_enter Try.func5, Try.ntmps5
  go_wp2_with (first | (go_at_call 16; refine (isSubnormal_spec _ _ hx).mono ?_; rw [Hb.out]; rintro e w' ⟨rfl, rfl⟩) | (go_at_call 17; refine (isSubnormal_impl _ _).mono ?_; rw [Hb.out]; rintro e w' ⟨rfl, m, rfl⟩))
  go_ret
  exact ⟨rfl, by repeat (first | exact Below.refl _ _ | refine below_drewN ?_ _)⟩

end Go.Proofs.Ythmppdaddnnjdaa
