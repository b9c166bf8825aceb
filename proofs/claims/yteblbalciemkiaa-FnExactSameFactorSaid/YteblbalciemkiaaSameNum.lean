/- Contracts of the sameness of two float32, and of two rows, on both sides. -/
import Derived.Test.YteblbalciemkiaaValid
namespace Go.Proofs.Yteblbalciemkiaa
open Go.RowKit Opn
set_option linter.unusedSimpArgs false
set_option linter.unusedVariables false

@[go_sem] theorem call_Float32bits (x : Nat) (w : World) : (callFunc 96 #[.float .f32 x]).run Try.prog w = .ok (.value (.int .u32 x)) w := by kernel_rfl

/-- one class: equal to the last bit, or NaN both -/
def sameB (a b : Nat) : Bool := decide (Flt.cls .f32 a = Flt.cls .f32 b)

theorem cls_num {a : Nat} (h : ¬ FloatKind.f32.format.infRung < Flt.rung FloatKind.f32.format a) : Flt.cls .f32 a = some a := by unfold Flt.cls; rw [if_neg h]
theorem cls_nan {a : Nat} (h : FloatKind.f32.format.infRung < Flt.rung FloatKind.f32.format a) : Flt.cls .f32 a = none := by unfold Flt.cls; rw [if_pos h]
theorem same_nn {a b : Nat} (ha : FloatKind.f32.format.infRung < Flt.rung FloatKind.f32.format a) (hb : FloatKind.f32.format.infRung < Flt.rung FloatKind.f32.format b) : sameB a b = true := by unfold sameB; rw [cls_nan ha, cls_nan hb]; rfl
theorem same_n1 {a b : Nat} (ha : FloatKind.f32.format.infRung < Flt.rung FloatKind.f32.format a) (hb : ¬ FloatKind.f32.format.infRung < Flt.rung FloatKind.f32.format b) : sameB a b = false := by unfold sameB; rw [cls_nan ha, cls_num hb]; rfl
theorem same_n2 {a b : Nat} (ha : ¬ FloatKind.f32.format.infRung < Flt.rung FloatKind.f32.format a) (hb : FloatKind.f32.format.infRung < Flt.rung FloatKind.f32.format b) : sameB a b = false := by unfold sameB; rw [cls_num ha, cls_nan hb]; rfl
theorem same_eq {a b : Nat} (ha : ¬ FloatKind.f32.format.infRung < Flt.rung FloatKind.f32.format a) (hb : ¬ FloatKind.f32.format.infRung < Flt.rung FloatKind.f32.format b) : sameB a b = decide (a = b) := by
  unfold sameB; rw [cls_num ha, cls_num hb]
  rw [Bool.eq_iff_iff, decide_eq_true_iff, decide_eq_true_iff, Option.some.injEq]

theorem l01Same_any (a b : Nat) (w : World) (ha' : a < 4294967296) (hb' : b < 4294967296) : Calls Try.prog 86 #[.float .f32 a, .float .f32 b] w fun e w' => e = .returned (.bool (sameB a b)) ∧ w' = w := by
  have ia : (a : Int) < 4294967296 := by omega
  have ib : (b : Int) < 4294967296 := by omega
  by_cases na : FloatKind.f32.format.infRung < Flt.rung FloatKind.f32.format a
  · have h1 := nan_neql na
    by_cases nb : FloatKind.f32.format.infRung < Flt.rung FloatKind.f32.format b
    · have h2 := nan_neql nb
      rw [same_nn na nb]
      clear na nb
      go_enter Try.func86, Try.ntmps86
      go_wp2_with go_in
      go_ret
      exact ⟨rfl, rfl⟩
    · have h2 := neql_self (k := .f32) (x := b) (by omega)
      have h3 : ((2143289344 : Int) == (b : Int)) = false := by
        rw [beq_eq_false_iff_ne]
        intro e
        apply nb
        rw [show b = 2143289344 by omega]; decide
      rw [same_n1 na nb]
      clear na nb
      go_enter Try.func86, Try.ntmps86
      go_wp2_with go_in
      go_ret
      exact ⟨by simp [h3], rfl⟩
  · have h1 := neql_self (k := .f32) (x := a) (by omega)
    by_cases nb : FloatKind.f32.format.infRung < Flt.rung FloatKind.f32.format b
    · have h2 := nan_neql nb
      have h3 : ((a : Int) == (2143289344 : Int)) = false := by
        rw [beq_eq_false_iff_ne]
        intro e
        apply na
        rw [show a = 2143289344 by omega]; decide
      rw [same_n2 na nb]
      clear na nb
      go_enter Try.func86, Try.ntmps86
      go_wp2_with go_in
      go_ret
      exact ⟨by simp [h3], rfl⟩
    · have h2 := neql_self (k := .f32) (x := b) (by omega)
      rw [same_eq na nb]
      have h3 : ((a : Int) == (b : Int)) = decide (a = b) := by rw [Bool.eq_iff_iff, beq_iff_eq, decide_eq_true_iff]; omega
      clear na nb
      go_enter Try.func86, Try.ntmps86
      go_wp2_with go_in
      go_ret
      exact ⟨by simp [h3], rfl⟩

theorem wideE (x : Nat) (h : Flt.rung FloatKind.f32.format x ≤ FloatKind.f32.format.infRung) (w : World) : Flt.cB .f32 .f64 x w = Flt.W x := by
  have hf := Flt.widen_Fl x w
  have e : Flt.cls .f32 x = some x := by unfold Flt.cls; rw [if_neg (by omega)]
  rw [e] at hf
  exact (Flt.cls_some hf.cls).1.symm

theorem wrap_sgn (x : Nat) (hx : x < 18446744073709551616) : decide (wrap64 (x : Int) < 0) = Flt.sgn FloatKind.f64.format x := by
  show _ = (x / 9223372036854775808 % 2 == 1)
  rw [Bool.eq_iff_iff, decide_eq_true_iff, beq_iff_eq]
  unfold wrap64
  omega

theorem signbit_any (x : Nat) (w : World) (hx : x < 18446744073709551616) : Calls Try.prog 87 #[.float .f64 x] w fun e w' => e = .returned (.bool (Flt.sgn FloatKind.f64.format x)) ∧ w' = w := by
  rw [← wrap_sgn x hx]
  clear hx
  go_enter Try.func87, Try.ntmps87
  go_wp2
  go_ret
  exact ⟨rfl, rfl⟩

set_option maxHeartbeats 1000000 in
theorem sameNum_impl (a b : Nat) (w : World) (ha' : a < 4294967296) (hb' : b < 4294967296) : Calls Try.prog 76 #[.float .f32 a, .float .f32 b] w fun e w' => e = .returned (.bool (sameB a b)) ∧ ∃ m, w' = w.drewN m := by
  by_cases na : FloatKind.f32.format.infRung < Flt.rung FloatKind.f32.format a
  · have h1 := nan_neql na
    by_cases nb : FloatKind.f32.format.infRung < Flt.rung FloatKind.f32.format b
    · have h2 := nan_neql nb
      rw [same_nn na nb]
      clear na nb
      go_enter Try.func76, Try.ntmps76
      go_wp2
      go_ret
      exact ⟨by simp [h1, h2], by repeat (first | exact ⟨0, rfl⟩ | exact ⟨_, rfl⟩ | refine drewN_ex ?_ _)⟩
    · have h2 := neql_self (k := .f32) (x := b) (by omega)
      rw [same_n1 na nb]
      clear na nb
      go_enter Try.func76, Try.ntmps76
      go_wp2
      go_ret
      exact ⟨by simp [h1, h2], by repeat (first | exact ⟨0, rfl⟩ | exact ⟨_, rfl⟩ | refine drewN_ex ?_ _)⟩
  · have h1 := neql_self (k := .f32) (x := a) (by omega)
    by_cases nb : FloatKind.f32.format.infRung < Flt.rung FloatKind.f32.format b
    · have h2 := nan_neql nb
      rw [same_n2 na nb]
      clear na nb
      go_enter Try.func76, Try.ntmps76
      go_wp2
      go_ret
      exact ⟨by simp [h1, h2], by repeat (first | exact ⟨0, rfl⟩ | exact ⟨_, rfl⟩ | refine drewN_ex ?_ _)⟩
    · have h2 := neql_self (k := .f32) (x := b) (by omega)
      have ca : ∀ w, Flt.cB .f32 .f64 a w = Flt.W a := fun w => wideE a (by omega) w
      have cb : ∀ w, Flt.cB .f32 .f64 b w = Flt.W b := fun w => wideE b (by omega) w
      have sab : Flt.sgn FloatKind.f64.format (Flt.W a) = Flt.sgn FloatKind.f32.format a := Flt.sgn_W a (by omega)
      have sbb : Flt.sgn FloatKind.f64.format (Flt.W b) = Flt.sgn FloatKind.f32.format b := Flt.sgn_W b (by omega)
      have iff := Flt.same_iff a b ha' hb' (by omega) (by omega)
      rw [same_eq na nb]
      cases h4 : (FloatKind.f32.format.order a b == some .eq) with
      | false =>
        have hne : a ≠ b := fun e => by have := (iff.2 e).1; rw [h4] at this; cases this
        rw [decide_eq_false hne]
        clear na nb iff sab sbb
        go_enter Try.func76, Try.ntmps76
        go_wp2_with (first | (go_at_call 87; refine (signbit_any _ _ (Flt.W_lt _)).mono ?_; rintro e w' ⟨rfl, rfl⟩) | go_in)
        go_ret
        exact ⟨rfl, by repeat (first | exact ⟨0, rfl⟩ | exact ⟨_, rfl⟩ | refine drewN_ex ?_ _)⟩
      | true =>
        have h6 : decide (a = b) = (Flt.sgn FloatKind.f64.format (Flt.W a) == Flt.sgn FloatKind.f64.format (Flt.W b)) := by
          rw [Bool.eq_iff_iff, decide_eq_true_iff, beq_iff_eq, sab, sbb]
          exact ⟨fun e => (iff.2 e).2, fun e => iff.1 ⟨h4, e⟩⟩
        rw [h6]
        clear na nb iff sab sbb h6
        go_enter Try.func76, Try.ntmps76
        go_wp2_with (first | (go_at_call 87; refine (signbit_any _ _ (Flt.W_lt _)).mono ?_; rintro e w' ⟨rfl, hw'⟩; have hw2 := hw'.symm; clear hw'; subst hw2) | go_in)
        go_ret
        exact ⟨rfl, by repeat (first | exact ⟨0, rfl⟩ | exact ⟨_, rfl⟩ | refine drewN_ex ?_ _)⟩

end Go.Proofs.Yteblbalciemkiaa
