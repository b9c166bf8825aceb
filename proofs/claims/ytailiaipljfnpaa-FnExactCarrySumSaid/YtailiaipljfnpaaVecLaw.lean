/- Contracts of IsVector, and of what leans on it, on both sides, and the walks of the laws. -/
import Derived.Test.YtailiaipljfnpaaAllFin
import Derived.Test.YtailiaipljfnpaaSum
import Derived.Test.YtailiaipljfnpaaSumLaw
namespace Go.Proofs.Ytailiaipljfnpaa
open Go.RowKit Opn

def vecB (n : Nat) (zs : List Nat) : Bool := decide (1 ≤ n ∧ n ≤ 256) && allF zs

theorem isVec_spec (v : Value) (n : Nat) (zs : List Nat) (w : World) (h : FRow w v n zs) (hn : n ≤ 1048576) : Calls Try.prog 33 #[v] w fun e w' => e = .returned (.bool (vecB n zs)) ∧ ∃ m, w' = w.drewN m := by
  obtain ⟨ao, cap, hv⟩ := h.form
  subst hv
  unfold vecB
  by_cases h1 : 1 ≤ n
  · by_cases h2 : n ≤ 256
    · rw [decide_eq_true ⟨h1, h2⟩]
      generalize hA : allF zs = A
      have d1 : decide (1 ≤ (n : Int)) = true := decide_eq_true (by omega)
      have d2 : decide ((n : Int) ≤ 256) = true := decide_eq_true (by omega)
      have HA : Hid _ := hA
      clear hA h1 h2
      go_enter Try.func33, Try.ntmps33
      go_wp2_with (first | (go_at_call 45; refine (allF_spec _ _ _ _ (by exact h) hn).mono ?_; rintro e w' ⟨rfl, m, rfl⟩) | go_in)
      rw [HA.out]
      go_ret
      exact ⟨rfl, _, rfl⟩
    · rw [decide_eq_false (by omega)]
      have d1 : decide (1 ≤ (n : Int)) = true := decide_eq_true (by omega)
      have d2 : decide ((n : Int) ≤ 256) = false := decide_eq_false (by omega)
      clear h1 h2
      go_enter Try.func33, Try.ntmps33
      go_wp2
      go_ret
      exact ⟨rfl, 0, rfl⟩
  · rw [decide_eq_false (by omega)]
    have d1 : decide (1 ≤ (n : Int)) = false := decide_eq_false (by omega)
    clear h1
    go_enter Try.func33, Try.ntmps33
    go_wp2
    go_ret
    exact ⟨rfl, 0, rfl⟩

theorem isVec_impl (v : Value) (n : Nat) (zs : List Nat) (w : World) (h : FRow w v n zs) (hn : n ≤ 1048576) : Calls Try.prog 18 #[v] w fun e w' => e = .returned (.bool (vecB n zs)) ∧ ∃ m, w' = w.drewN m := by
  obtain ⟨ao, cap, hv⟩ := h.form
  subst hv
  unfold vecB
  by_cases h1 : 1 ≤ n
  · by_cases h2 : n ≤ 256
    · rw [decide_eq_true ⟨h1, h2⟩]
      generalize hA : allF zs = A
      have d1 : decide (1 ≤ (n : Int)) = true := decide_eq_true (by omega)
      have d2 : decide ((n : Int) ≤ 256) = true := decide_eq_true (by omega)
      have HA : Hid _ := hA
      clear hA h1 h2
      go_enter Try.func18, Try.ntmps18
      go_wp2_with (first | (go_at_call 36; refine (allF_impl _ _ _ _ (by exact h) hn).mono ?_; rintro e w' ⟨rfl, m, rfl⟩) | go_in)
      rw [HA.out]
      go_ret
      exact ⟨rfl, _, rfl⟩
    · rw [decide_eq_false (by omega)]
      have d1 : decide (1 ≤ (n : Int)) = true := decide_eq_true (by omega)
      have d2 : decide ((n : Int) ≤ 256) = false := decide_eq_false (by omega)
      clear h1 h2
      go_enter Try.func18, Try.ntmps18
      go_wp2
      go_ret
      exact ⟨rfl, 0, rfl⟩
  · rw [decide_eq_false (by omega)]
    have d1 : decide (1 ≤ (n : Int)) = false := decide_eq_false (by omega)
    clear h1
    go_enter Try.func18, Try.ntmps18
    go_wp2
    go_ret
    exact ⟨rfl, 0, rfl⟩

theorem isVec_spec' (v : Value) (n : Nat) (zs : List Nat) (w : World) (h : FRow w v n zs) (hn : n ≤ 1048576) : Calls Try.prog 17 #[v] w fun e w' => e = .returned (.bool (vecB n zs)) ∧ ∃ m, w' = w.drewN m := by
  go_enter Try.func17, Try.ntmps17
  go_wp2_with (go_at_call 33; refine (isVec_spec _ _ _ _ h hn).mono ?_; rintro e w' ⟨rfl, m, rfl⟩)
  go_ret
  exact ⟨rfl, _, rfl⟩

set_option maxHeartbeats 1000000 in
theorem isVector_walk (v : Value) (n : Nat) (zs : List Nat) (w : World) (hF : FRow w v n zs) :
    Calls Try.prog 5 #[v] w fun e w' => e = .returned (.bool true) ∧ Below w.heap.size w w' := by
  obtain ⟨ao, cap, hv⟩ := hF.form
  subst hv
  have hmx := hF.mx
  have hz : Hid _ := hF.lt
  have hmm : n ≤ 9223372036854775807 := hmx
  generalize hB : vecB n zs = B
  have HB : Hid _ := hB
  clear hB
  by_cases hn : n ≤ 1048576
  · have hd : decide ((1048576 : Int) < (n : Int)) = false := decide_eq_false (by omega)
    go_enter Try.func5, Try.ntmps5
    go_wp2_with fail
    refine (toF_any _ _ _ _ hF hn).mono ?_
    rintro e w1 ⟨g1, rfl, hg1, ho1, hb1⟩
    have hF1 := hF.below hb1 (Nat.le_refl _)
    have hR1 := ho1.row hmx hz.out
    go_wp2_with fail
    refine (isVec_spec' _ _ _ _ hR1 hn).mono ?_
    rw [HB.out]
    rintro e w2 ⟨rfl, m1, rfl⟩
    go_wp2_with fail
    refine (toF_any _ _ _ _ (hF1.drewN m1) hn).mono ?_
    rintro e w3 ⟨g2, rfl, hg2, ho2, hb2⟩
    have hF2 := (hF1.drewN m1).below hb2 (Nat.le_refl _)
    have hR2 := ho2.row hmx hz.out
    go_wp2_with fail
    refine (isVec_impl _ _ _ _ hR2 hn).mono ?_
    rw [HB.out]
    rintro e w4 ⟨rfl, m2, rfl⟩
    go_wp2_with fail
    refine (toF_any _ _ _ _ (by exact hF2) hn).mono ?_
    rintro e w6 ⟨g3, rfl, hg3, ho3, hb3⟩
    have hR3 := ho3.row hmx hz.out
    have hR2' := Opn.FRow.below (by exact hR2) hb3 (Nat.le_refl _)
    go_wp2_with fail
    refine (eqF_any _ _ _ _ _ hR2' hR3 hn).mono ?_
    rintro e w7 ⟨rfl, m3, rfl⟩
    go_wp2_with fail
    go_ret
    refine ⟨rfl, below_drewN ?_ _⟩
    refine Below.trans ?_ (hb3.mono ?_)
    · repeat refine below_drewN ?_ _
      refine Below.trans ?_ (hb2.mono ?_)
      · exact below_drewN hb1 _
      · have := hb1.size; simpa using this
    · have := hb1.size; have := hb2.size; simp at *; omega
  · have hd : decide ((1048576 : Int) < (n : Int)) = true := decide_eq_true (by omega)
    go_enter Try.func5, Try.ntmps5
    go_wp2
    go_ret
    exact ⟨rfl, Below.refl _ _⟩

end Go.Proofs.Ytailiaipljfnpaa
