/- The walks of the small laws: constants, bits of a float32, names, sameness of numbers, floats from bits, check numbers. -/
import Derived.Test.YtfnndlblbcmnaaaChecked
import Derived.Test.YtfnndlblbcmnaaaFloat
import Derived.Outline
namespace Go.Proofs.Ytfnndlblbcmnaaa
open Go.RowKit

@[go_sem] theorem call_Float32bits (x : Nat) (w : World) : (callFunc 25 #[.float .f32 x]).run Try.prog w = .ok (.value (.int .u32 x)) w := by kernel_rfl
@[go_sem] theorem call_Float64bits (x : Nat) (w : World) : (callFunc 34 #[.float .f64 x]).run Try.prog w = .ok (.value (.int .u64 x)) w := by kernel_rfl
@[go_sem] theorem call_Float32frombits (n : Int) (w : World) : (callFunc 31 #[.int .u32 n]).run Try.prog w = .ok (.value (.float .f32 n.toNat)) w := by kernel_rfl

theorem constants_walk (w : World) : Calls Try.prog 3 #[] w fun e w' => e = .returned (.bool true) ∧ Below w.heap.size w w' := by
  go_enter Try.func3, Try.ntmps3
  go_wp2
  go_ret
  exact ⟨rfl, Below.refl _ _⟩

theorem neq_self {x : Nat} (h : FloatKind.f32.format.infRung < Flt.rung FloatKind.f32.format x) : (FloatKind.f32.format.order x x != some .eq) = true := by
  rw [Flt.order_nan_left _ (Flt.ok _) _ _ h]; rfl
theorem neq_self' {x : Nat} (h : ¬ FloatKind.f32.format.infRung < Flt.rung FloatKind.f32.format x) : (FloatKind.f32.format.order x x != some .eq) = false := by
  rw [Flt.order_eq _ (Flt.ok _) _ _ (by omega) (by omega)]
  have : compare (Flt.srung FloatKind.f32.format x) (Flt.srung FloatKind.f32.format x) = .eq := by
    show compareOfLessAndEq _ _ = _
    unfold compareOfLessAndEq; simp
  rw [this]; rfl

theorem bitsOf_walk (x : Nat) (w : World) (hx : (Lit.float .f32 x).wf = true) : Calls Try.prog 5 #[.float .f32 x] w fun e w' => e = .returned (.bool true) ∧ Below w.heap.size w w' := by
  have hx' : (x : Int) < 4294967296 := by have : x < 4294967296 := by simpa [Lit.wf] using hx
                                          omega
  by_cases h : FloatKind.f32.format.infRung < Flt.rung FloatKind.f32.format x
  · have hn := neq_self h
    clear h hx
    go_enter Try.func5, Try.ntmps5
    go_wp2
    go_ret
    exact ⟨rfl, Below.refl _ _⟩
  · have hn := neq_self' h
    clear h hx
    go_enter Try.func5, Try.ntmps5
    go_wp2
    go_ret
    exact ⟨rfl, Below.refl _ _⟩


set_option linter.unusedVariables false
theorem wrap_sgn (x : Nat) (hx : x < 18446744073709551616) : decide (wrap64 (x : Int) < 0) = Flt.sgn FloatKind.f64.format x := by
  show _ = (x / 9223372036854775808 % 2 == 1)
  rw [Bool.eq_iff_iff, decide_eq_true_iff, beq_iff_eq]
  unfold wrap64
  omega

theorem signbit_any (x : Nat) (w : World) (hx : x < 18446744073709551616) : Calls Try.prog 28 #[.float .f64 x] w fun e w' => e = .returned (.bool (Flt.sgn FloatKind.f64.format x)) ∧ w' = w := by
  rw [← wrap_sgn x hx]
  clear hx
  go_enter Try.func28, Try.ntmps28
  go_wp2
  go_ret
  exact ⟨rfl, rfl⟩

/-- A float64 that is no NaN stands to itself as equal. -/
theorem eql_self {k : FloatKind} {x : Nat} (h : Flt.rung k.format x ≤ k.format.infRung) : (k.format.order x x == some .eq) = true := by
  rw [Flt.order_eq _ (Flt.ok _) _ _ h h]
  have : compare (Flt.srung k.format x) (Flt.srung k.format x) = .eq := by
    show compareOfLessAndEq _ _ = _
    unfold compareOfLessAndEq; simp
  rw [this]; rfl
theorem neql_self {k : FloatKind} {x : Nat} (h : Flt.rung k.format x ≤ k.format.infRung) : (k.format.order x x != some .eq) = false := by
  rw [bne, eql_self h]; rfl
theorem nan_neql {k : FloatKind} {x : Nat} (h : k.format.infRung < Flt.rung k.format x) : (k.format.order x x != some .eq) = true := by
  rw [Flt.order_nan_left _ (Flt.ok _) _ _ h]; rfl

/-- sameFloat: two words of one class are the same. -/
theorem sameFloat_any (v : Option Nat) (a b : Nat) (w : World) (ha : Flt.Fl .f64 v a) (hb : Flt.Fl .f64 v b) : Calls Try.prog 12 #[.float .f64 a, .float .f64 b] w fun e w' => e = .returned (.bool true) ∧ w' = w := by
  cases v with
  | none =>
    have h1 := nan_neql (Flt.cls_none ha.cls)
    have h2 := nan_neql (Flt.cls_none hb.cls)
    clear ha hb
    go_enter Try.func12, Try.ntmps12
    go_wp2
    go_ret
    exact ⟨rfl, rfl⟩
  | some x =>
    obtain ⟨ea, ra⟩ := Flt.cls_some ha.cls
    obtain ⟨eb, rb⟩ := Flt.cls_some hb.cls
    subst ea; subst eb
    have h1 := eql_self ra
    have h2 := neql_self ra
    by_cases h0 : FloatKind.f64.format.order x 0 == some .eq
    · have hx : x = 0 ∨ x = 9223372036854775808 :=  Flt.eql_zero ha.lt ra (by simpa using h0)
      have q1 : floatBits .quo .f64 4607182418800017408 0 = some 9218868437227405312 := by decide +kernel
      have q2 : floatBits .quo .f64 4607182418800017408 9223372036854775808 = some 18442240474082181120 := by decide +kernel
      have hq : ∃ r, ∀ w, (binOp .quo 23 (.float .f64 4607182418800017408) (.float .f64 x)).run Try.prog w = .ok (.float .f64 r) w := by
        rcases hx with rfl | rfl
        · exact ⟨_, fun w => run_float_arith w .quo _ _ _ _ _ q1⟩
        · exact ⟨_, fun w => run_float_arith w .quo _ _ _ _ _ q2⟩
      obtain ⟨r, hr⟩ := hq
      clear hx ha hb ra rb q1 q2
      go_enter Try.func12, Try.ntmps12
      go_wp2
      go_ret
      exact ⟨rfl, rfl⟩
    · have h0' : (FloatKind.f64.format.order x 0 == some .eq) = false := by simpa using h0
      clear h0 ha hb ra rb
      go_enter Try.func12, Try.ntmps12
      go_wp2
      go_ret
      exact ⟨rfl, rfl⟩


theorem sameNumber_walk (a b : Nat) (w : World) (ha : (Lit.float .f32 a).wf = true) (hb : (Lit.float .f32 b).wf = true) :
    Calls Try.prog 7 #[.float .f32 a, .float .f32 b] w fun e w' => e = .returned (.bool true) ∧ Below w.heap.size w w' := by
  have ha' : a < 4294967296 := by simpa [Lit.wf] using ha
  have hb' : b < 4294967296 := by simpa [Lit.wf] using hb
  have ia : (a : Int) < 4294967296 := by omega
  have ib : (b : Int) < 4294967296 := by omega
  clear ha hb
  by_cases na : FloatKind.f32.format.infRung < Flt.rung FloatKind.f32.format a
  · have h1 := nan_neql na
    by_cases nb : FloatKind.f32.format.infRung < Flt.rung FloatKind.f32.format b
    · have h2 := nan_neql nb
      clear na nb
      go_enter Try.func7, Try.ntmps7
      go_wp2
      go_ret
      exact ⟨rfl, Below.refl _ _⟩
    · have h2 := neql_self (k := .f32) (x := b) (by omega)
      have h3 : ((2143289344 : Int) == (b : Int)) = false := by
        rw [beq_eq_false_iff_ne]
        intro e
        apply nb
        rw [show b = 2143289344 by omega]; decide
      clear na nb
      go_enter Try.func7, Try.ntmps7
      go_wp2
      go_ret
      exact ⟨rfl, Below.refl _ _⟩
  · have h1 := neql_self (k := .f32) (x := a) (by omega)
    by_cases nb : FloatKind.f32.format.infRung < Flt.rung FloatKind.f32.format b
    · have h2 := nan_neql nb
      have h3 : ((a : Int) == (2143289344 : Int)) = false := by
        rw [beq_eq_false_iff_ne]
        intro e
        apply na
        rw [show a = 2143289344 by omega]; decide
      clear na nb
      go_enter Try.func7, Try.ntmps7
      go_wp2
      go_ret
      exact ⟨rfl, Below.refl _ _⟩
    · have h2 := neql_self (k := .f32) (x := b) (by omega)
      have ca : ∀ w, (convert 24 23 (.float .f32 a)).run Try.prog w = .ok (.float .f64 (Flt.W a)) w := fun w => run_convert_float_float w _ _ _ _ _ _ (by kernel_rfl) Try.underlying23 (Flt.W_conv a (by omega))
      have cb : ∀ w, (convert 24 23 (.float .f32 b)).run Try.prog w = .ok (.float .f64 (Flt.W b)) w := fun w => run_convert_float_float w _ _ _ _ _ _ (by kernel_rfl) Try.underlying23 (Flt.W_conv b (by omega))
      have sab : Flt.sgn FloatKind.f64.format (Flt.W a) = Flt.sgn FloatKind.f32.format a := Flt.sgn_W a (by omega)
      have sbb : Flt.sgn FloatKind.f64.format (Flt.W b) = Flt.sgn FloatKind.f32.format b := Flt.sgn_W b (by omega)
      have iff := Flt.same_iff a b ha' hb' (by omega) (by omega)
      by_cases e : a = b
      · subst e
        have h4 := (iff.2 rfl).1
        clear na nb iff h2 sab sbb cb
        go_enter Try.func7, Try.ntmps7
        go_wp2_with (first | (go_at_call 28; refine (signbit_any _ _ (Flt.W_lt _)).mono ?_; rintro e w' ⟨rfl, rfl⟩) | go_in)
        go_ret
        exact ⟨rfl, Below.refl _ _⟩
      · have h5 : ((a : Int) == (b : Int)) = false := by rw [beq_eq_false_iff_ne]; omega
        cases h4 : (FloatKind.f32.format.order a b == some .eq) with
        | false =>
          clear na nb iff sab sbb
          go_enter Try.func7, Try.ntmps7
          go_wp2_with (first | (go_at_call 28; refine (signbit_any _ _ (Flt.W_lt _)).mono ?_; rintro e w' ⟨rfl, rfl⟩) | go_in)
          go_ret
          exact ⟨rfl, Below.refl _ _⟩
        | true =>
          have h6 : (Flt.sgn FloatKind.f64.format (Flt.W a) == Flt.sgn FloatKind.f64.format (Flt.W b)) = false := by
            rw [beq_eq_false_iff_ne, sab, sbb]
            exact fun h => e (iff.1 ⟨h4, h⟩)
          clear na nb iff sab sbb
          go_enter Try.func7, Try.ntmps7
          go_wp2_with (first | (go_at_call 28; refine (signbit_any _ _ (Flt.W_lt _)).mono ?_; rintro e w' ⟨rfl, rfl⟩) | go_in)
          go_ret
          exact ⟨rfl, Below.refl _ _⟩

set_option maxHeartbeats 1000000 in
theorem fromBits_walk (n : Int) (w : World) (hn : (Lit.int .i64 n).wf = true) :
    Calls Try.prog 8 #[.int .i64 n] w fun e w' => e = .returned (.bool true) ∧ Below w.heap.size w w' := by
  clear hn
  by_cases h : 0 ≤ n ∧ n ≤ 4294967295
  · obtain ⟨h0, h1⟩ := h
    go_enter Try.func8, Try.ntmps8
    go_wp2_with (first | (refine Flt.wpList_widen rfl (by kernel_rfl) Try.underlying23 ?_; intro r n hr) | (go_at_call 12; refine (sameFloat_any _ _ _ _ (by assumption) (by assumption)).mono ?_; rintro e w' ⟨rfl, rfl⟩) | go_in)
    go_ret
    exact ⟨rfl, below_drewN (Below.refl _ _) _⟩
  · by_cases h0 : 0 ≤ n
    · have h1 : decide (n ≤ 4294967295) = false := decide_eq_false (by omega)
      clear h
      go_enter Try.func8, Try.ntmps8
      go_wp2_with (first | (refine Flt.wpList_widen rfl (by kernel_rfl) Try.underlying23 ?_; intro r n hr) | (go_at_call 12; refine (sameFloat_any _ _ _ _ (by assumption) (by assumption)).mono ?_; rintro e w' ⟨rfl, rfl⟩) | go_in)
      go_ret
      exact ⟨rfl, below_drewN (Below.refl _ _) _⟩
    · have h1 : decide (0 ≤ n) = false := decide_eq_false (by omega)
      clear h h0
      go_enter Try.func8, Try.ntmps8
      go_wp2_with (first | (refine Flt.wpList_widen rfl (by kernel_rfl) Try.underlying23 ?_; intro r n hr) | (go_at_call 12; refine (sameFloat_any _ _ _ _ (by assumption) (by assumption)).mono ?_; rintro e w' ⟨rfl, rfl⟩) | go_in)
      go_ret
      exact ⟨rfl, below_drewN (Below.refl _ _) _⟩

end Go.Proofs.Ytfnndlblbcmnaaa
