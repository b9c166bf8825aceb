/- The walk of the law on IsFinite. -/
import Derived.Test.YthmppdaddnnjdaaFin
namespace Go.Proofs.Ythmppdaddnnjdaa
open Go.RowKit

theorem isFinite_walk (x : Nat) (w : World) (_hx : (Lit.float .f32 x).wf = true) : Calls Try.prog 3 #[.float .f32 x] w fun e w' => e = .returned (.bool true) ∧ Below w.heap.size w w' := by
  generalize hb : finB x = b
  have Hb : Hid _ := hb
  clear hb
  go_enter Try.func3, Try.ntmps3
  go_wp2_with (first | (go_at_call 29; refine (isFinite_spec _ _).mono ?_; rw [Hb.out]; rintro e w' ⟨rfl, m, rfl⟩) | (go_at_call 12; refine (isFinite_impl _ _).mono ?_; rw [Hb.out]; rintro e w' ⟨rfl, m, rfl⟩) | go_in)
  go_ret
  exact ⟨rfl, by repeat (first | exact Below.refl _ _ | refine below_drewN ?_ _)⟩

end Go.Proofs.Ythmppdaddnnjdaa
