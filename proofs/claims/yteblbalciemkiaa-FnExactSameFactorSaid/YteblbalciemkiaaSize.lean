/- The size of a matrix under a bound. -/
import Derived.Test.YteblbalciemkiaaMat
namespace Go.Proofs.Yteblbalciemkiaa
open Go.RowKit Opn

theorem szM_gen (k : Int) (hk0 : 0 ≤ k) (hk1 : k ≤ 1048576) (x y : Int) (s : Value) (n : Nat) (zs : List Nat) (w : World) (h : FRow w s n zs) : Calls Try.prog 25 #[.agg #[.int .i64 x, .int .i64 y, s], .int .i64 k] w fun e w' => e = .returned (.int .i64 (if (n : Int) ≤ k then k - n else -1)) ∧ Below w.heap.size w w' := by
  obtain ⟨h1, h2, h3, h4⟩ := h
  have h2 : n ≤ 9223372036854775807 := h2
  obtain ⟨ao, cap, rfl⟩ : ∃ ao cap, s = .slice ao n cap := by
    rcases h4 with ⟨h0, ao, cap, hv⟩ | ⟨h0, b, off, cap, hv, _⟩
    · exact ⟨ao, cap, by rw [hv, h0]⟩
    · exact ⟨_, cap, hv⟩
  clear h1 h3 h4
  by_cases hn : (n : Int) ≤ k
  · rw [if_pos hn]
    go_enter Try.func25, Try.ntmps25
    go_wp2_with go_in
    go_ret
    exact ⟨by simp, by go_grown⟩
  · rw [if_neg hn]
    have hd : decide (k - (n : Int) < 0) = true := decide_eq_true (by omega)
    go_enter Try.func25, Try.ntmps25
    go_wp2_with go_in
    go_ret
    exact ⟨rfl, by go_grown⟩

end Go.Proofs.Yteblbalciemkiaa
