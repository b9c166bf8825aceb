/- Contracts of math.Abs, math.IsNaN, math.IsInf and of the program's and the reference's tests for finite numbers. -/
import Derived.Test.YtdomcjiiilbajaaChecked
import Derived.Test.YtdomcjiiilbajaaFloat
import Derived.Outline
namespace Go.Proofs.Ytdomcjiiilbajaa
open Go.RowKit

@[go_sem] theorem call_Float64bits (x : Nat) (w : World) : (callFunc 45 #[.float .f64 x]).run Try.prog w = .ok (.value (.int .u64 x)) w := by kernel_rfl
@[go_sem] theorem call_Float64frombits (n : Int) (w : World) : (callFunc 43 #[.int .u64 n]).run Try.prog w = .ok (.value (.float .f64 n.toNat)) w := by kernel_rfl

def absB (x : Nat) : Nat := x % 9223372036854775808
def finB (x : Nat) : Bool := decide (Flt.rung FloatKind.f32.format x < FloatKind.f32.format.infRung)
def fin64B (x : Nat) : Bool := decide (Flt.rung FloatKind.f64.format x < FloatKind.f64.format.infRung)

theorem abs_bits (x : Nat) (hx : x < 18446744073709551616) : bits .andNot .u64 (x : Int) 9223372036854775808 = ((absB x : Nat) : Int) := by
  have := u64_andNot_nat x 9223372036854775808 hx (by decide)
  rw [show ((9223372036854775808 : Nat) : Int) = 9223372036854775808 from rfl] at this
  rw [this, show (18446744073709551615 - 9223372036854775808 : Nat) = 2 ^ 63 - 1 from rfl, Nat.and_two_pow_sub_one_eq_mod]
  rfl

theorem abs_any (x : Nat) (w : World) (hx : x < 18446744073709551616) : Calls Try.prog 30 #[.float .f64 x] w fun e w' => e = .returned (.float .f64 (absB x)) ∧ w' = w := by
  have hb := abs_bits x hx
  clear hx
  go_enter Try.func30, Try.ntmps30
  go_wp2
  go_ret
  exact ⟨rfl, rfl⟩

theorem absB_lt (x : Nat) : absB x < 18446744073709551616 := by unfold absB; omega
theorem rung_absB (x : Nat) : Flt.rung FloatKind.f64.format (absB x) = Flt.rung FloatKind.f64.format x := by
  show x % 9223372036854775808 % 9223372036854775808 = x % 9223372036854775808
  omega
theorem srung_absB (x : Nat) : Flt.srung FloatKind.f64.format (absB x) = (Flt.rung FloatKind.f64.format x : Int) := by
  have hs : Flt.sgn FloatKind.f64.format (absB x) = false := by
    show (x % 9223372036854775808 / 9223372036854775808 % 2 == 1) = false
    rw [Nat.div_eq_of_lt (Nat.mod_lt _ (by decide))]; rfl
  unfold Flt.srung
  rw [hs, rung_absB]; rfl

/-- |x| against the greatest finite float64: greater only if infinite. -/
theorem abs_gt_max (x : Nat) (hr : Flt.rung FloatKind.f64.format x ≤ FloatKind.f64.format.infRung) : (FloatKind.f64.format.order (absB x) 9218868437227405311 == some .gt) = !fin64B x := by
  rw [Flt.fgt (by rw [rung_absB]; exact hr) (by decide), srung_absB]
  have hm : Flt.srung FloatKind.f64.format 9218868437227405311 = 9218868437227405311 := by decide
  have hi : FloatKind.f64.format.infRung = 9218868437227405312 := by decide
  rw [hm]
  unfold fin64B
  rw [hi]
  rw [Bool.eq_iff_iff]
  simp
  omega

theorem isFinite64_any (x : Nat) (w : World) (hx : x < 18446744073709551616) : Calls Try.prog 34 #[.float .f64 x] w fun e w' => e = .returned (.bool (fin64B x)) ∧ w' = w := by
  by_cases hr : Flt.rung FloatKind.f64.format x ≤ FloatKind.f64.format.infRung
  · have h1 : (FloatKind.f64.format.order x x != some .eq) = false := by
      rw [bne, Flt.feq hr hr]; simp
    have h2 := abs_gt_max x hr
    have hb := absB_lt x
    clear hr
    go_enter Try.func34, Try.ntmps34
    go_wp2_with (first | (go_at_call 30; refine (abs_any _ _ (by assumption)).mono ?_; rintro e w' ⟨rfl, rfl⟩) | go_in)
    go_ret
    exact ⟨by simp, rfl⟩
  · have h1 : (FloatKind.f64.format.order x x != some .eq) = true := by
      rw [Flt.order_nan_left _ (Flt.ok _) _ _ (by omega)]; rfl
    have h2 : fin64B x = false := by unfold fin64B; rw [decide_eq_false_iff_not]; omega
    rw [h2]
    clear hr h2
    go_enter Try.func34, Try.ntmps34
    go_wp2
    go_ret
    exact ⟨rfl, rfl⟩

theorem fin_wid (x r : Nat) (h : Flt.Fl .f64 (Flt.wid (Flt.cls .f32 x)) r) : fin64B r = finB x := by
  unfold fin64B finB
  rw [Bool.eq_iff_iff, decide_eq_true_iff, decide_eq_true_iff]
  have hc := h.cls
  by_cases hr : FloatKind.f32.format.infRung < Flt.rung FloatKind.f32.format x
  · have e : Flt.cls .f32 x = none := by unfold Flt.cls; rw [if_pos hr]
    rw [e] at hc
    have := Flt.cls_none hc
    omega
  · have e : Flt.cls .f32 x = some x := by unfold Flt.cls; rw [if_neg hr]
    rw [e] at hc
    obtain ⟨e2, h2⟩ := Flt.cls_some hc
    have e3 : r = Flt.W x := e2.symm
    have := Flt.W_inf_iff x (by omega)
    rw [e3] at h2 ⊢
    omega

theorem isFinite_impl (x : Nat) (w : World) : Calls Try.prog 25 #[.float .f32 x] w fun e w' => e = .returned (.bool (finB x)) ∧ ∃ m, w' = w.drewN m := by
  go_enter Try.func25, Try.ntmps25
  go_wp2_with (first | (go_at_call 34; refine (isFinite64_any _ _ (Flt.widen_Fl _ _).lt).mono ?_; rintro e w' ⟨rfl, rfl⟩))
  go_ret
  exact ⟨by simp [fin_wid x _ (Flt.widen_Fl x w)], _, rfl⟩

theorem sub_self (x : Nat) : Flt.fop .sub .f32 (Flt.cls .f32 x) (Flt.cls .f32 x) = if finB x then some 0 else none := by
  rw [Flt.fop_cls]
  unfold finB
  show FloatKind.f32.format.sub x x = _
  rcases Nat.lt_trichotomy (Flt.rung FloatKind.f32.format x) FloatKind.f32.format.infRung with h | h | h
  · rw [decide_eq_true h]
    unfold Ieee.Format.sub
    rw [Flt.read_num _ x h]
    show some (FloatKind.f32.format.nearest _ _ _) = some 0
    congr 1
    unfold Ieee.Format.nearest
    rw [if_pos (by
      rw [Flt.signed_val, Flt.signed_val]
      cases Flt.sgn FloatKind.f32.format x <;> simp <;> omega)]
    rw [if_pos (by
      rw [Flt.signed_val, Flt.signed_val]
      cases Flt.sgn FloatKind.f32.format x <;> simp <;> omega)]
    cases Flt.sgn FloatKind.f32.format x <;> rfl
  · rw [decide_eq_false (by omega)]
    unfold Ieee.Format.sub
    rw [Flt.read_inf _ (Flt.ok _) x h]
    cases Flt.sgn FloatKind.f32.format x <;> rfl
  · rw [decide_eq_false (by omega)]
    unfold Ieee.Format.sub
    rw [Flt.read_nan _ (Flt.ok _) x h]; rfl

theorem sub_self_eq (x r : Nat) (h : Flt.Fl .f32 (Flt.fop .sub .f32 (Flt.cls .f32 x) (Flt.cls .f32 x)) r) : (FloatKind.f32.format.order r 0 == some .eq) = finB x := by
  rw [sub_self] at h
  have hc := h.cls
  cases hf : finB x with
  | true =>
    rw [hf] at hc
    obtain ⟨e, _⟩ := Flt.cls_some hc
    rw [← e]; decide
  | false =>
    rw [hf] at hc
    rw [Flt.order_nan_left _ (Flt.ok _) _ _ (Flt.cls_none hc)]; rfl


end Go.Proofs.Ytdomcjiiilbajaa
