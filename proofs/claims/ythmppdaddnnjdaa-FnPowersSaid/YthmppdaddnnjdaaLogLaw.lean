/- Contracts of LogNumber on both sides. -/
import Derived.Test.YthmppdaddnnjdaaLog
import Derived.Test.YthmppdaddnnjdaaSame
namespace Go.Proofs.Ythmppdaddnnjdaa
open Go.RowKit

/-- the class of the logarithm of a float32 -/
def lgF (x : Nat) : Option Nat :=
  if x = 0 ∨ x = 2147483648 then some 4286578688
  else if x < 2139095040 then Flt.nar (Flt.logV (Flt.W x))
  else if x = 2139095040 then some x
  else none

theorem rung32 (x : Nat) : Flt.rung FloatKind.f32.format x = x % 2147483648 := rfl
theorem inf32 : FloatKind.f32.format.infRung = 2139095040 := by decide

theorem W_pz : Flt.W 0 = 0 := by decide +kernel
theorem W_nz : Flt.W 2147483648 = 9223372036854775808 := by decide +kernel
theorem W_pinf : Flt.W 2139095040 = 9218868437227405312 := by decide +kernel

/-- the widened word: what the tests of the wide logarithm see -/
theorem wide_eq (x : Nat) (h : Flt.rung FloatKind.f32.format x ≤ FloatKind.f32.format.infRung) (w : World) : Flt.cB .f32 .f64 x w = Flt.W x := by
  have hf := Flt.widen_Fl x w
  have e : Flt.cls .f32 x = some x := by unfold Flt.cls; rw [if_neg (by omega)]
  rw [e] at hf
  exact (Flt.cls_some hf.cls).1.symm

theorem bad_tests (x : Nat) (hx : x < 4294967296) (h : 2139095040 < x) (hz : x ≠ 2147483648) (w : World) :
    ((FloatKind.f64.format.order (Flt.cB .f32 .f64 x w) (Flt.cB .f32 .f64 x w) != some .eq) = true ∨
      ((FloatKind.f64.format.order (Flt.cB .f32 .f64 x w) (Flt.cB .f32 .f64 x w) != some .eq) = false ∧ (FloatKind.f64.format.order (Flt.cB .f32 .f64 x w) 0 == some .lt) = true)) := by
  by_cases hn : FloatKind.f32.format.infRung < Flt.rung FloatKind.f32.format x
  · left
    have hf := Flt.widen_Fl x w
    have e : Flt.cls .f32 x = none := by unfold Flt.cls; rw [if_pos hn]
    rw [e] at hf
    rw [Flt.order_nan_left _ (Flt.ok _) _ _ (Flt.cls_none hf.cls)]; rfl
  · right
    rw [wide_eq x (by omega)]
    have hr := Flt.W_rung x (by omega)
    refine ⟨by rw [bne, Flt.feq hr hr]; simp, ?_⟩
    rw [Flt.flt hr (by decide), decide_eq_true_iff]
    have hs := Flt.sgn_W x (by omega)
    have hsx : Flt.sgn FloatKind.f32.format x = true := by
      show (x / 2147483648 % 2 == 1) = true
      rw [rung32, inf32] at hn
      rw [beq_iff_eq]; omega
    have h0 := Flt.W_zero_iff x (by omega)
    rw [rung32] at h0
    rw [hsx] at hs
    have : Flt.srung FloatKind.f64.format 0 = 0 := by decide
    rw [this]
    unfold Flt.srung
    rw [hs]
    simp only [if_true]
    omega

theorem bad_tests32 (x : Nat) (hx : x < 4294967296) (h : 2139095040 < x) (hz : x ≠ 2147483648) :
    ((FloatKind.f32.format.order x x != some .eq) = true ∨
      ((FloatKind.f32.format.order x x != some .eq) = false ∧ (FloatKind.f32.format.order x 0 == some .lt) = true)) := by
  by_cases hn : FloatKind.f32.format.infRung < Flt.rung FloatKind.f32.format x
  · left; rw [Flt.order_nan_left _ (Flt.ok _) _ _ hn]; rfl
  · right
    refine ⟨by rw [bne, Flt.feq (by omega) (by omega)]; simp, ?_⟩
    rw [Flt.flt (by omega) (by decide), decide_eq_true_iff]
    have hsx : Flt.sgn FloatKind.f32.format x = true := by
      show (x / 2147483648 % 2 == 1) = true
      rw [rung32, inf32] at hn
      rw [beq_iff_eq]; omega
    have : Flt.srung FloatKind.f32.format 0 = 0 := by decide
    rw [this]
    unfold Flt.srung
    rw [hsx, rung32]
    simp only [if_true]
    omega

theorem nan_narrow (w : World) : Flt.Fl .f32 none (Flt.cB .f64 .f32 9221120237041090561 w) := by
  have := Flt.narrow_Fl 9221120237041090561 w (by rw [show Flt.cls .f64 9221120237041090561 = none by decide +kernel]; exact Flt.narOk_none)
  rwa [show Flt.cls .f64 9221120237041090561 = none by decide +kernel] at this
theorem ninf_narrow (w : World) : Flt.cB .f64 .f32 18442240474082181120 w = 4286578688 := by
  unfold Flt.cB; rw [show FloatKind.f64.decode 18442240474082181120 = .infinity true by decide +kernel]
  show FloatKind.f32.encode (.infinity true) = _
  decide +kernel
theorem pinf_narrow (w : World) : Flt.cB .f64 .f32 9218868437227405312 w = 2139095040 := by
  unfold Flt.cB; rw [show FloatKind.f64.decode 9218868437227405312 = .infinity false by decide +kernel]
  show FloatKind.f32.encode (.infinity false) = _
  decide +kernel

theorem pos_facts (x : Nat) (h0 : x ≠ 0) (h : x < 2139095040) : (FloatKind.f32.format.order x x != some .eq) = false ∧ (FloatKind.f32.format.order x 0 == some .lt) = false ∧ (FloatKind.f32.format.order x 0 == some .eq) = false := by
  have hr : Flt.rung FloatKind.f32.format x = x := Nat.mod_eq_of_lt (show x < 2147483648 by omega)
  have hs : Flt.sgn FloatKind.f32.format x = false := by
    show (x / 2147483648 % 2 == 1) = false
    rw [Nat.div_eq_of_lt (by omega)]; rfl
  have hsr : Flt.srung FloatKind.f32.format x = x := by unfold Flt.srung; rw [hs, hr]; rfl
  have hz : Flt.srung FloatKind.f32.format 0 = 0 := by decide
  have hle : Flt.rung FloatKind.f32.format x ≤ FloatKind.f32.format.infRung := by rw [hr, inf32]; omega
  refine ⟨by rw [bne, Flt.feq hle hle]; simp, ?_, ?_⟩
  · rw [Flt.flt hle (by decide), hsr, hz]; exact decide_eq_false (by omega)
  · rw [Flt.feq hle (by decide), hsr, hz]; exact decide_eq_false (by omega)

theorem lg_pos (x : Nat) (h0 : x ≠ 0) (h : x < 2139095040) : lgF x = Flt.nar (Flt.logV (Flt.W x)) := by
  unfold lgF; rw [if_neg (by omega), if_pos h]
theorem lg_bad (x : Nat) (h : 2139095040 < x) (hz : x ≠ 2147483648) : lgF x = none := by
  unfold lgF; rw [if_neg (by omega), if_neg (by omega), if_neg (by omega)]

theorem narrow_log (x r : Nat) (h0 : x ≠ 0) (h : x < 2139095040) (hr : Flt.Fl .f64 (Flt.logV (Flt.W x)) r) (w : World) : Flt.Fl .f32 (lgF x) (Flt.cB .f64 .f32 r w) := by
  obtain ⟨a, b⟩ := Flt.W_pos x (by omega) h
  have := Flt.narrow_Fl r w (by rw [hr.cls]; exact Flt.narOk_of (Flt.logV_nb _ a b) (by decide))
  rw [hr.cls] at this
  rw [lg_pos x h0 h]; exact this

set_option maxHeartbeats 2000000 in
theorem lg_impl (x : Nat) (w : World) (hx : x < 4294967296) : Calls Try.prog 23 #[.float .f32 x] w fun e w' => ∃ r, e = .returned (.float .f32 r) ∧ Flt.Fl .f32 (lgF x) r ∧ ∃ m, w' = w.drewN m := by
  by_cases hc : 2139095040 < x
  · by_cases hz : x = 2147483648
    · subst hz
      clear hc hx
      have t1 : (FloatKind.f32.format.order 2147483648 2147483648 != some .eq) = false := by decide +kernel
      have t2 : (FloatKind.f32.format.order 2147483648 0 == some .lt) = false := by decide +kernel
      have t3 : (FloatKind.f32.format.order 2147483648 0 == some .eq) = true := by decide +kernel
      have hfin : finB 2147483648 = true := by decide +kernel
      have hn := ninf_narrow
      go_enter Try.func23, Try.ntmps23
      go_wp2_with (first | (go_at_call 12; refine (isFinite_impl _ _).mono ?_; rw [hfin]; rintro e w' ⟨rfl, m, rfl⟩) | go_in)
      go_ret
      exact ⟨_, rfl, ⟨by decide +kernel, by decide⟩, by repeat (first | exact ⟨0, rfl⟩ | exact ⟨_, rfl⟩ | refine drewN_ex ?_ _)⟩
    rcases bad_tests32 x hx hc hz with h1 | ⟨h1, h2⟩
    all_goals
      rw [lg_bad x hc hz]
      have hn := fun w => (nan_narrow w)
      clear hx hc hz
      go_enter Try.func23, Try.ntmps23
      go_wp2
      go_ret
      exact ⟨_, rfl, hn _, by repeat (first | exact ⟨0, rfl⟩ | exact ⟨_, rfl⟩ | refine drewN_ex ?_ _)⟩
  · by_cases h0 : x = 0
    · subst h0
      clear hc hx
      have t1 : (FloatKind.f32.format.order 0 0 != some .eq) = false := by decide +kernel
      have t2 : (FloatKind.f32.format.order 0 0 == some .lt) = false := by decide +kernel
      have t3 : (FloatKind.f32.format.order 0 0 == some .eq) = true := by decide +kernel
      have hfin : finB 0 = true := by decide +kernel
      have hn := ninf_narrow
      go_enter Try.func23, Try.ntmps23
      go_wp2_with (first | (go_at_call 12; refine (isFinite_impl _ _).mono ?_; rw [hfin]; rintro e w' ⟨rfl, m, rfl⟩) | go_in)
      go_ret
      exact ⟨_, rfl, ⟨by decide +kernel, by decide⟩, by repeat (first | exact ⟨0, rfl⟩ | exact ⟨_, rfl⟩ | refine drewN_ex ?_ _)⟩
    · by_cases hi : x = 2139095040
      · subst hi
        clear hc hx h0
        have t1 : (FloatKind.f32.format.order 2139095040 2139095040 != some .eq) = false := by decide +kernel
        have t2 : (FloatKind.f32.format.order 2139095040 0 == some .lt) = false := by decide +kernel
        have t3 : (FloatKind.f32.format.order 2139095040 0 == some .eq) = false := by decide +kernel
        have hfin : finB 2139095040 = false := by decide +kernel
        have hn := pinf_narrow
        go_enter Try.func23, Try.ntmps23
        go_wp2_with (first | (go_at_call 12; refine (isFinite_impl _ _).mono ?_; rw [hfin]; rintro e w' ⟨rfl, m, rfl⟩) | go_in)
        go_ret
        exact ⟨_, rfl, ⟨by decide +kernel, by decide⟩, by repeat (first | exact ⟨0, rfl⟩ | exact ⟨_, rfl⟩ | refine drewN_ex ?_ _)⟩
      · have hlt : x < 2139095040 := by omega
        have hp := Flt.W_pos x (by omega) hlt
        have hN : Hid (∀ r w, Flt.Fl .f64 (Flt.logV (Flt.W x)) r → Flt.Fl .f32 (lgF x) (Flt.cB .f64 .f32 r w)) := fun r w h => narrow_log x r h0 hlt h w
        have hr : Flt.rung FloatKind.f32.format x = x := Nat.mod_eq_of_lt (show x < 2147483648 by omega)
        have hw : ∀ w, Flt.cB .f32 .f64 x w = Flt.W x := fun w => wide_eq x (by rw [hr, inf32]; omega) w
        obtain ⟨t1, t2, t3⟩ := pos_facts x h0 hlt
        have hfin : finB x = true := by unfold finB; rw [hr, inf32]; exact decide_eq_true hlt
        clear hr hc hx h0 hi hlt
        go_enter Try.func23, Try.ntmps23
        go_wp2_with (first | (go_at_call 43; refine (log_impl (Flt.W x) _ _ ⟨x, rfl, hw⟩ hp.1 hp.2).mono ?_; rintro e w' ⟨r, rfl, hr, m, rfl⟩) | (go_at_call 12; refine (isFinite_impl _ _).mono ?_; rw [hfin]; rintro e w' ⟨rfl, m, rfl⟩) | go_in)
        go_ret
        exact ⟨_, rfl, hN.out _ _ hr, by repeat (first | exact ⟨0, rfl⟩ | exact ⟨_, rfl⟩ | refine drewN_ex ?_ _)⟩

set_option maxHeartbeats 2000000 in
theorem lg_spec (x : Nat) (w : World) (hx : x < 4294967296) : Calls Try.prog 22 #[.float .f32 x] w fun e w' => ∃ r, e = .returned (.float .f32 r) ∧ Flt.Fl .f32 (lgF x) r ∧ ∃ m, w' = w.drewN m := by
  by_cases hc : 2139095040 < x
  · by_cases hz : x = 2147483648
    · subst hz
      clear hc hx
      have hw : ∀ w, Flt.cB .f32 .f64 2147483648 w = 9223372036854775808 := fun w => by rw [wide_eq _ (by decide), W_nz]
      have t1 : (FloatKind.f64.format.order 9223372036854775808 9223372036854775808 != some .eq) = false := by decide +kernel
      have t2 : (FloatKind.f64.format.order 9223372036854775808 0 == some .lt) = false := by decide +kernel
      have t3 : (FloatKind.f64.format.order 9223372036854775808 0 == some .eq) = true := by decide +kernel
      have t4 : (FloatKind.f64.format.order 9223372036854775808 9218868437227405311 == some .gt) = false := by decide +kernel
      have hn := ninf_narrow
      go_enter Try.func22, Try.ntmps22
      go_wp2_with (first | fail | go_in)
      go_ret
      exact ⟨_, rfl, ⟨by decide +kernel, by decide⟩, by repeat (first | exact ⟨0, rfl⟩ | exact ⟨_, rfl⟩ | refine drewN_ex ?_ _)⟩
    have HB : Hid _ := bad_tests x hx hc hz w
    rcases HB.out with h1 | ⟨h1, h2⟩
    all_goals
      rw [lg_bad x hc hz]
      have hn := fun w => (nan_narrow w)
      clear hx hc hz
      go_enter Try.func22, Try.ntmps22
      go_wp2
      go_ret
      exact ⟨_, rfl, hn _, by repeat (first | exact ⟨0, rfl⟩ | exact ⟨_, rfl⟩ | refine drewN_ex ?_ _)⟩
  · by_cases h0 : x = 0
    · subst h0
      clear hc hx
      have hw : ∀ w, Flt.cB .f32 .f64 0 w = 0 := fun w => by rw [wide_eq _ (by decide), W_pz]
      have t1 : (FloatKind.f64.format.order 0 0 != some .eq) = false := by decide +kernel
      have t2 : (FloatKind.f64.format.order 0 0 == some .lt) = false := by decide +kernel
      have t3 : (FloatKind.f64.format.order 0 0 == some .eq) = true := by decide +kernel
      have t4 : (FloatKind.f64.format.order 0 9218868437227405311 == some .gt) = false := by decide +kernel
      have hn := ninf_narrow
      go_enter Try.func22, Try.ntmps22
      go_wp2_with (first | fail | go_in)
      go_ret
      exact ⟨_, rfl, ⟨by decide +kernel, by decide⟩, by repeat (first | exact ⟨0, rfl⟩ | exact ⟨_, rfl⟩ | refine drewN_ex ?_ _)⟩
    · by_cases hi : x = 2139095040
      · subst hi
        clear hc hx h0
        have hw : ∀ w, Flt.cB .f32 .f64 2139095040 w = 9218868437227405312 := fun w => by rw [wide_eq _ (by decide), W_pinf]
        have t1 : (FloatKind.f64.format.order 9218868437227405312 9218868437227405312 != some .eq) = false := by decide +kernel
        have t2 : (FloatKind.f64.format.order 9218868437227405312 0 == some .lt) = false := by decide +kernel
        have t3 : (FloatKind.f64.format.order 9218868437227405312 0 == some .eq) = false := by decide +kernel
        have t4 : (FloatKind.f64.format.order 9218868437227405312 9218868437227405311 == some .gt) = true := by decide +kernel
        have hn := pinf_narrow
        go_enter Try.func22, Try.ntmps22
        go_wp2_with (first | fail | go_in)
        go_ret
        exact ⟨_, rfl, ⟨by decide +kernel, by decide⟩, by repeat (first | exact ⟨0, rfl⟩ | exact ⟨_, rfl⟩ | refine drewN_ex ?_ _)⟩
      · have hlt : x < 2139095040 := by omega
        have hp := Flt.W_pos x (by omega) hlt
        have hN : Hid (∀ r w, Flt.Fl .f64 (Flt.logV (Flt.W x)) r → Flt.Fl .f32 (lgF x) (Flt.cB .f64 .f32 r w)) := fun r w h => narrow_log x r h0 hlt h w
        have hr : Flt.rung FloatKind.f32.format x = x := Nat.mod_eq_of_lt (show x < 2147483648 by omega)
        have hw : ∀ w, Flt.cB .f32 .f64 x w = Flt.W x := fun w => wide_eq x (by rw [hr, inf32]; omega) w
        obtain ⟨t1, t2, t3⟩ := pos_facts x h0 hlt
        have hfin : finB x = true := by unfold finB; rw [hr, inf32]; exact decide_eq_true hlt
        clear hr hc hx h0 hi hlt
        go_enter Try.func22, Try.ntmps22
        go_wp2_with (first | (go_at_call 57; refine (log_spec (Flt.W x) _ _ rfl hp.1 hp.2).mono ?_; rintro e w' ⟨r, rfl, hr, m, rfl⟩) | fail | go_in)
        go_ret
        exact ⟨_, rfl, hN.out _ _ hr, by repeat (first | exact ⟨0, rfl⟩ | exact ⟨_, rfl⟩ | refine drewN_ex ?_ _)⟩


theorem wid_of' {v : Option Nat} {r : Nat} (h : Flt.Fl .f32 v r) (w : World) : Flt.Fl .f64 (Flt.wid v) (Flt.cB .f32 .f64 r w) := by
  have := Flt.widen_Fl r w
  rwa [h.cls] at this

theorem logNumber_walk (x : Nat) (w : World) (hx0 : (Lit.float .f32 x).wf = true) : Calls Try.prog 8 #[.float .f32 x] w fun e w' => e = .returned (.bool true) ∧ Below w.heap.size w w' := by
  have hx : x < 4294967296 := by simpa [Lit.wf] using hx0
  clear hx0
  go_enter Try.func8, Try.ntmps8
  go_wp2_with (first | (go_at_call 22; refine (lg_spec _ _ hx).mono ?_; rintro e w' ⟨r1, rfl, hr1, m, rfl⟩) | (go_at_call 23; refine (lg_impl _ _ hx).mono ?_; rintro e w' ⟨r2, rfl, hr2, m2, rfl⟩) | (go_at_call 15; refine (sameFloat_any _ _ _ _ (wid_of' hr2 _) (wid_of' hr1 _)).mono ?_; rintro e w' ⟨rfl, rfl⟩))
  go_ret
  exact ⟨rfl, by repeat (first | exact Below.refl _ _ | refine below_drewN ?_ _)⟩

end Go.Proofs.Ythmppdaddnnjdaa

