/- The contract of sameFloat: two words of one class are the same. -/
import Derived.Test.YtlhhedmammjieaaDoorChecked
import Derived.Test.YtlhhedmammjieaaDoorFloat
namespace Go.Proofs.YtlhhedmammjieaaDoor
open Go.RowKit

/-- A float64 that is no NaN stands to itself as equal. -/
theorem eql_self {k : FloatKind} {x : Nat} (h : Flt.rung k.format x ≤ k.format.infRung) : (k.format.order x x == some .eq) = true := by
  rw [Flt.order_eq _ (Flt.ok _) _ _ h h]
  have : compare (Flt.srung k.format x) (Flt.srung k.format x) = .eq := by
    show compareOfLessAndEq _ _ = _
    unfold compareOfLessAndEq; simp
  rw [this]; rfl
theorem neql_self {k : FloatKind} {x : Nat} (h : Flt.rung k.format x ≤ k.format.infRung) : (k.format.order x x != some .eq) = false := by
  rw [bne, eql_self h]; rfl
theorem nan_neql {k : FloatKind} {x : Nat} (h : k.format.infRung < Flt.rung k.format x) : (k.format.order x x != some .eq) = true := by
  rw [Flt.order_nan_left _ (Flt.ok _) _ _ h]; rfl

/-- sameFloat: two words of one class are the same. -/
theorem sameFloat_any (v : Option Nat) (a b : Nat) (w : World) (ha : Flt.Fl .f64 v a) (hb : Flt.Fl .f64 v b) : Calls Tryd.prog 23 #[.float .f64 a, .float .f64 b] w fun e w' => e = .returned (.bool true) ∧ w' = w := by
  cases v with
  | none =>
    have h1 := nan_neql (Flt.cls_none ha.cls)
    have h2 := nan_neql (Flt.cls_none hb.cls)
    clear ha hb
    go_enter Tryd.func23, Tryd.ntmps23
    go_wp2
    go_ret
    exact ⟨rfl, rfl⟩
  | some x =>
    obtain ⟨ea, ra⟩ := Flt.cls_some ha.cls
    obtain ⟨eb, rb⟩ := Flt.cls_some hb.cls
    subst ea; subst eb
    have h1 := eql_self ra
    have h2 := neql_self ra
    by_cases h0 : FloatKind.f64.format.order x 0 == some .eq
    · have hx : x = 0 ∨ x = 9223372036854775808 :=  Flt.eql_zero ha.lt ra (by simpa using h0)
      have q1 : floatBits .quo .f64 4607182418800017408 0 = some 9218868437227405312 := by decide +kernel
      have q2 : floatBits .quo .f64 4607182418800017408 9223372036854775808 = some 18442240474082181120 := by decide +kernel
      have hq : ∃ r, ∀ w, (binOp .quo 41 (.float .f64 4607182418800017408) (.float .f64 x)).run Tryd.prog w = .ok (.float .f64 r) w := by
        rcases hx with rfl | rfl
        · exact ⟨_, fun w => run_float_arith w .quo _ _ _ _ _ q1⟩
        · exact ⟨_, fun w => run_float_arith w .quo _ _ _ _ _ q2⟩
      obtain ⟨r, hr⟩ := hq
      clear hx ha hb ra rb q1 q2
      go_enter Tryd.func23, Tryd.ntmps23
      go_wp2
      go_ret
      exact ⟨rfl, rfl⟩
    · have h0' : (FloatKind.f64.format.order x 0 == some .eq) = false := by simpa using h0
      clear h0 ha hb ra rb
      go_enter Tryd.func23, Tryd.ntmps23
      go_wp2
      go_ret
      exact ⟨rfl, rfl⟩

end Go.Proofs.YtlhhedmammjieaaDoor
