/- The reference tells a quarter from zero. -/
import Derived.Test.YtdomcjiiilbajaaCirC
namespace Go.Proofs.Ytdomcjiiilbajaa
open Go.RowKit

@[go_sem] theorem call_Float32bits (x : Nat) (w : World) : (callFunc 58 #[.float .f32 x]).run Try.prog w = .ok (.value (.int .u32 x)) w := by kernel_rfl

theorem quarter_bits (x : Nat) (w : World) (hx : x = 1048576000 ∨ x = 0) : Calls Try.prog 53 #[.float .f32 x] w fun e w' => e = .returned (.int .i64 (x : Int)) ∧ w' = w := by
  have h : (FloatKind.f32.format.order x x != some .eq) = false := by rcases hx with rfl | rfl <;> decide +kernel
  have hlt : (x : Int) < 4294967296 := by omega
  clear hx
  go_enter Try.func53, Try.ntmps53
  go_wp2_with go_in
  go_ret
  exact ⟨rfl, rfl⟩

theorem same_quarter (w : World) : Calls Try.prog 23 #[.float .f32 1048576000, .float .f32 0] w fun e w' => e = .returned (.bool false) ∧ w' = w := by
  go_enter Try.func23, Try.ntmps23
  go_wp2_with (first | (go_at_call 53; refine (quarter_bits _ _ (by first | exact .inl rfl | exact .inr rfl)).mono ?_; rintro e w' ⟨rfl, rfl⟩) | go_in)
  go_ret
  exact ⟨rfl, rfl⟩

theorem angle_quarter (w : World) : Calls Try.prog 17 #[.complex .f32 0 1065353216] w fun e w' => e = .returned (.float .f32 1048576000) ∧ ∃ m, w' = w.drewN m := angleOf_any 0 1065353216 1048576000 w (by decide +kernel)

end Go.Proofs.Ytdomcjiiilbajaa
