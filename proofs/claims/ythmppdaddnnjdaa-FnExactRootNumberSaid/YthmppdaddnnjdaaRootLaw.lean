/- The walk of the law on RootNumber. -/
import Derived.Test.YthmppdaddnnjdaaRoot
namespace Go.Proofs.Ythmppdaddnnjdaa
open Go.RowKit

theorem root_walk (x : Nat) (w : World) (_hx : (Lit.float .f32 x).wf = true) : Calls Try.prog 4 #[.float .f32 x] w fun e w' => e = .returned (.bool true) ∧ Below w.heap.size w w' := by
  go_enter Try.func4, Try.ntmps4
  go_wp2_with (first | (go_at_call 31; refine (root_spec _ _).mono ?_; rintro e w' ⟨r1, rfl, hr1, m, rfl⟩) | (go_at_call 14; refine (root_impl _ _).mono ?_; rintro e w' ⟨r2, rfl, hr2, m2, rfl⟩) | (go_at_call 15; refine (sameFloat_any _ _ _ _ (wid_of hr2 _) (wid_of hr1 _)).mono ?_; rintro e w' ⟨rfl, rfl⟩) | go_in)
  go_ret
  exact ⟨rfl, by repeat (first | exact Below.refl _ _ | refine below_drewN ?_ _)⟩

end Go.Proofs.Ythmppdaddnnjdaa
