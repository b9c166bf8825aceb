/- The contract of RootNumber, and the walk of its law. -/
import Derived.Test.YteblbalciemkiaaBound
import Derived.Test.YteblbalciemkiaaSame
namespace Go.Proofs.Yteblbalciemkiaa
open Go.RowKit

theorem wid_of {v : Option Nat} {r : Nat} (h : Flt.Fl .f32 v r) (w : World) : Flt.Fl .f64 (Flt.wid v) (Flt.cB .f32 .f64 r w) := by
  have := Flt.widen_Fl r w
  rwa [h.cls] at this

/-- math.Sqrt's own operation -/
theorem run_sqrt (x : Nat) (w : World) : (Extern.MathSqrt.sqrt #[.float .f64 x]).run Try.prog w = .ok (.float .f64 (Flt.sB x w)) (w.drewN (Flt.sN x)) := by
  change Sem.run Try.prog (match FloatKind.f64.format.sqrt x with
    | some r => pure (Value.float .f64 r)
    | none => do pure (Value.float .f64 (← choose (.nanBits .f64 x x)))) w = _
  unfold Flt.sB Flt.sN
  have hfo : (Question.nanBits .f64 x x).forced = false := rfl
  cases hq : FloatKind.f64.format.sqrt x with
  | some r => simp; rfl
  | none => simp [hfo]; rfl

@[go_sem] theorem call_sqrt (x : Nat) (w : World) : (callFunc 90 #[.float .f64 x]).run Try.prog w = .ok (.value (.float .f64 (Flt.sB x w))) (w.drewN (Flt.sN x)) := by
  rw [run_callFunc_extern (e := Extern.MathSqrt.sqrt) Try.func90 (by kernel_rfl) (by kernel_rfl) (by kernel_rfl) (by kernel_rfl), run_sqrt]
  rfl

def rootF (x : Nat) : Option Nat := Flt.nar (Flt.sqF (Flt.wid (Flt.cls .f32 x)))

theorem root_Fl (x : Nat) (w w' w'' : World) : Flt.Fl .f32 (rootF x) (Flt.cB .f64 .f32 (Flt.sB (Flt.cB .f32 .f64 x w) w') w'') := by
  have h1 := Flt.widen_Fl x w
  have h2 := Flt.sB_Fl (Flt.cB .f32 .f64 x w) w'
  rw [h1.cls] at h2
  have h3 := Flt.narrow_Fl (Flt.sB (Flt.cB .f32 .f64 x w) w') w'' (by rw [h2.cls]; exact Flt.root_narOk x)
  rw [h2.cls] at h3
  exact h3

theorem root_impl (x : Nat) (w : World) : Calls Try.prog 84 #[.float .f32 x] w fun e w' => ∃ r, e = .returned (.float .f32 r) ∧ Flt.Fl .f32 (rootF x) r ∧ ∃ m, w' = w.drewN m := by
  have H : Hid (∀ w w' w'', Flt.Fl .f32 (rootF x) (Flt.cB .f64 .f32 (Flt.sB (Flt.cB .f32 .f64 x w) w') w'')) := fun w w' w'' => root_Fl x w w' w''
  go_enter Try.func84, Try.ntmps84
  go_wp2
  go_ret
  exact ⟨_, rfl, H.out _ _ _, _, rfl⟩

theorem root_spec (x : Nat) (w : World) : Calls Try.prog 66 #[.float .f32 x] w fun e w' => ∃ r, e = .returned (.float .f32 r) ∧ Flt.Fl .f32 (rootF x) r ∧ ∃ m, w' = w.drewN m := by
  have H : Hid (∀ w w' w'', Flt.Fl .f32 (rootF x) (Flt.cB .f64 .f32 (Flt.sB (Flt.cB .f32 .f64 x w) w') w'')) := fun w w' w'' => root_Fl x w w' w''
  go_enter Try.func66, Try.ntmps66
  go_wp2
  go_ret
  exact ⟨_, rfl, H.out _ _ _, _, rfl⟩

end Go.Proofs.Yteblbalciemkiaa
