/- The walk of the law of SineTurns. -/
import Derived.Test.YtdomcjiiilbajaaSine
namespace Go.Proofs.Ytdomcjiiilbajaa
open Go.RowKit
open Ieee

/-- the class of the sine of a float32 of turns -/
def sinF (x : Nat) : Option Nat :=
  bif finB x then (bif farB x then some 0 else Flt.nar (some (Flt.sinR (Flt.W x)))) else none
where farB (x : Nat) : Bool := decide (4841369599423283200 ≤ Flt.rung FloatKind.f64.format (Flt.W x))

theorem sine_spec_nan (y : Nat) (w : World) (h : fin64B y = false) : Calls Try.prog 42 #[.float .f64 y] w fun e w' => e = .returned (.float .f64 9221120237041090561) ∧ ∃ m, w' = w.drewN m := by
  have h1 : ∀ w, (FloatKind.f64.format.order (Flt.fB .sub .f64 y y w) 0 != some .eq) = true := fun w => by rw [bne, sub_self64 y _ (Flt.fB_Fl .sub .f64 y y w), h]; rfl
  clear h
  go_enter Try.func42, Try.ntmps42
  go_wp2
  go_ret
  exact ⟨rfl, by repeat (first | exact ⟨0, rfl⟩ | exact ⟨_, rfl⟩ | refine drewN_ex ?_ _)⟩

theorem far_tests (y : Nat) (hf : fin64B y = true) (h : 4841369599423283200 ≤ Flt.rung FloatKind.f64.format y) : (∀ w, (FloatKind.f64.format.order (Flt.fB .sub .f64 y y w) 0 != some .eq) = false) ∧ ((FloatKind.f64.format.order y 4841369599423283200 == some .gt || FloatKind.f64.format.order y 4841369599423283200 == some .eq) = true ∨ ((FloatKind.f64.format.order y 4841369599423283200 == some .gt || FloatKind.f64.format.order y 4841369599423283200 == some .eq) = false ∧ (FloatKind.f64.format.order y 14064741636278059008 == some .lt || FloatKind.f64.format.order y 14064741636278059008 == some .eq) = true)) := by
  refine ⟨fun w => by rw [bne, sub_self64 y _ (Flt.fB_Fl .sub .f64 y y w), hf]; rfl, ?_⟩
  have hr : Flt.rung FloatKind.f64.format y < FloatKind.f64.format.infRung := of_decide_eq_true hf
  rw [Flt.fge (by omega) (by decide), Flt.fle (by omega) (by decide), show Flt.srung FloatKind.f64.format 4841369599423283200 = 4841369599423283200 by decide, show Flt.srung FloatKind.f64.format 14064741636278059008 = -4841369599423283200 by decide]
  unfold Flt.srung
  cases Flt.sgn FloatKind.f64.format y <;> simp <;> omega

theorem sine_spec_far (y : Nat) (w : World) (hf : fin64B y = true) (h : 4841369599423283200 ≤ Flt.rung FloatKind.f64.format y) : Calls Try.prog 42 #[.float .f64 y] w fun e w' => e = .returned (.float .f64 0) ∧ ∃ m, w' = w.drewN m := by
  obtain ⟨h1, h2⟩ := far_tests y hf h
  clear hf h
  rcases h2 with h2 | ⟨h2, h3⟩
  all_goals
    go_enter Try.func42, Try.ntmps42
    go_wp2
    go_ret
    exact ⟨rfl, by repeat (first | exact ⟨0, rfl⟩ | exact ⟨_, rfl⟩ | refine drewN_ex ?_ _)⟩

theorem zero_narrow (w : World) : Flt.cB .f64 .f32 0 w = 0 := by
  unfold Flt.cB; rw [show FloatKind.f64.decode 0 = .number false 0 (-1074) by decide +kernel]
  show (if (FloatKind.f32.decode (FloatKind.f32.encode (Datum.number false 0 (-1074)))).isInfinity = true then _ else _) = _
  rw [if_neg (by decide +kernel)]
  decide +kernel

theorem narrow_N (r : Nat) (h : Flt.N r 100) (w : World) : Flt.Fl .f32 (Flt.nar (some r)) (Flt.cB .f64 .f32 r w) := by
  have hr := h.rung_le (by decide) (by decide)
  have hc : Flt.cls .f64 r = some r := by unfold Flt.cls; rw [if_neg (by omega)]
  have := Flt.narrow_Fl r w (by rw [hc]; exact Flt.narOk_of h.nb (by decide))
  rwa [hc] at this

theorem near_N (y : Nat) (h : ¬ 4841369599423283200 ≤ Flt.rung FloatKind.f64.format y) : Flt.N y 52 := by
  have : Flt.pw FloatKind.f64.format 52 = 4841369599423283200 := by decide +kernel
  show _ ≤ _
  omega

theorem fin_W (x : Nat) (h : finB x = true) : (∀ w, Flt.cB .f32 .f64 x w = Flt.W x) ∧ fin64B (Flt.W x) = true := by
  have hr : Flt.rung FloatKind.f32.format x < FloatKind.f32.format.infRung := of_decide_eq_true h
  have hw := wide_eq x (Nat.le_of_lt hr)
  refine ⟨hw, ?_⟩
  rw [← h]
  refine fin_wid x _ ?_
  have := Flt.widen_Fl x default
  rwa [hw] at this

theorem isFar_impl (y : Nat) (w : World) (hy : y < 18446744073709551616) (hf : fin64B y = true) : Calls Try.prog 27 #[.float .f64 y] w fun e w' => e = .returned (.bool (decide (4841369599423283200 ≤ Flt.rung FloatKind.f64.format y))) ∧ w' = w := by
  have hr : Flt.rung FloatKind.f64.format y < FloatKind.f64.format.infRung := of_decide_eq_true hf
  have ht := Flt.fge (k := .f64) (a := absB y) (b := 4841369599423283200) (by rw [rung_absB]; omega) (by decide)
  rw [srung_absB, show Flt.srung FloatKind.f64.format 4841369599423283200 = 4841369599423283200 by decide] at ht
  have h2 : decide ((4841369599423283200 : Int) ≤ (Flt.rung FloatKind.f64.format y : Int)) = decide (4841369599423283200 ≤ Flt.rung FloatKind.f64.format y) := by
    rw [Bool.eq_iff_iff, decide_eq_true_iff, decide_eq_true_iff]; omega
  rw [h2] at ht
  clear h2 hr hf
  generalize decide (4841369599423283200 ≤ Flt.rung FloatKind.f64.format y) = b at *
  go_enter Try.func27, Try.ntmps27
  go_wp2_with (first | (go_at_call 30; refine (abs_any _ _ (by assumption)).mono ?_; rintro e w' ⟨rfl, rfl⟩))
  go_ret
  exact ⟨by simp, rfl⟩

set_option maxHeartbeats 1000000 in
theorem sin_impl (x : Nat) (w : World) : Calls Try.prog 8 #[.float .f32 x] w fun e w' => ∃ r, e = .returned (.float .f32 r) ∧ Flt.Fl .f32 (sinF x) r ∧ ∃ m, w' = w.drewN m := by
  unfold sinF
  cases hfin : finB x with
  | false =>
    have hn := fun w => nan_narrow w
    go_enter Try.func8, Try.ntmps8
    go_wp2_with (first | (go_at_call 25; refine (isFinite_impl _ _).mono ?_; rw [hfin]; rintro e w' ⟨rfl, m, rfl⟩) | go_in)
    go_ret
    exact ⟨_, rfl, hn _, by repeat (first | exact ⟨0, rfl⟩ | exact ⟨_, rfl⟩ | refine drewN_ex ?_ _)⟩
  | true =>
    obtain ⟨hw, hf⟩ := fin_W x hfin
    have hl := Flt.W_lt x
    have hfar : ∀ w, Calls Try.prog 27 #[.float .f64 (Flt.W x)] w fun e w' => e = .returned (.bool (sinF.farB x)) ∧ w' = w := fun w => isFar_impl _ w hl hf
    have HF : Hid _ := hfar
    clear hfar
    cases hb : sinF.farB x with
    | true =>
      rw [hb] at HF
      clear hf hl hb
      go_enter Try.func8, Try.ntmps8
      go_wp2_with (first | (go_at_call 25; refine (isFinite_impl _ _).mono ?_; rw [hfin]; rintro e w' ⟨rfl, m, rfl⟩) | (go_at_call 27; refine (HF.out _).mono ?_; rintro e w' ⟨rfl, rfl⟩) | go_in)
      go_ret
      exact ⟨_, rfl, ⟨show Flt.cls .f32 0 = some 0 by decide, by decide⟩, by repeat (first | exact ⟨0, rfl⟩ | exact ⟨_, rfl⟩ | refine drewN_ex ?_ _)⟩
    | false =>
      rw [hb] at HF
      have hN := near_N (Flt.W x) (of_decide_eq_false hb)
      have HS : Hid (∀ w, Calls Try.prog 28 #[.float .f64 (Flt.W x)] w fun e w' => e = .returned (.float .f64 (Flt.sinR (Flt.W x))) ∧ ∃ m, w' = w.drewN m) := fun w => sine_impl_near _ w hN
      have HN : Hid _ := narrow_N _ (Flt.sinR_N _ hN)
      clear hf hl hb hN
      generalize Flt.sinR (Flt.W x) = s at *
      go_enter Try.func8, Try.ntmps8
      go_wp2_with (first | (go_at_call 25; refine (isFinite_impl _ _).mono ?_; rw [hfin]; rintro e w' ⟨rfl, m, rfl⟩) | (go_at_call 27; refine (HF.out _).mono ?_; rintro e w' ⟨rfl, rfl⟩) | (go_at_call 28; refine (HS.out _).mono ?_; rintro e w' ⟨rfl, m, rfl⟩) | go_in)
      go_ret
      exact ⟨_, rfl, HN.out _, by repeat (first | exact ⟨0, rfl⟩ | exact ⟨_, rfl⟩ | refine drewN_ex ?_ _)⟩

set_option maxHeartbeats 1000000 in
theorem sin_spec (x : Nat) (w : World) : Calls Try.prog 7 #[.float .f32 x] w fun e w' => ∃ r, e = .returned (.float .f32 r) ∧ Flt.Fl .f32 (sinF x) r ∧ ∃ m, w' = w.drewN m := by
  unfold sinF
  cases hfin : finB x with
  | false =>
    have hn := fun w => nan_narrow w
    have HS : Hid (∀ w w', Calls Try.prog 42 #[.float .f64 (Flt.cB .f32 .f64 x w)] w' fun e w'' => e = .returned (.float .f64 9221120237041090561) ∧ ∃ m, w'' = w'.drewN m) := fun w w' => sine_spec_nan _ _ (by rw [fin_wid x _ (Flt.widen_Fl x w), hfin])
    go_enter Try.func7, Try.ntmps7
    go_wp2_with (first | (go_at_call 42; refine (HS.out _ _).mono ?_; rintro e w' ⟨rfl, m, rfl⟩) | go_in)
    go_ret
    exact ⟨_, rfl, hn _, by repeat (first | exact ⟨0, rfl⟩ | exact ⟨_, rfl⟩ | refine drewN_ex ?_ _)⟩
  | true =>
    obtain ⟨hw, hf⟩ := fin_W x hfin
    cases hb : sinF.farB x with
    | true =>
      have HS : Hid (∀ w', Calls Try.prog 42 #[.float .f64 (Flt.W x)] w' fun e w'' => e = .returned (.float .f64 0) ∧ ∃ m, w'' = w'.drewN m) := fun w' => sine_spec_far _ _ hf (of_decide_eq_true hb)
      have hz := zero_narrow
      clear hf hb
      go_enter Try.func7, Try.ntmps7
      go_wp2_with (first | (go_at_call 42; refine (HS.out _).mono ?_; rintro e w' ⟨rfl, m, rfl⟩) | go_in)
      go_ret
      exact ⟨_, rfl, ⟨show Flt.cls .f32 0 = some 0 by decide, by decide⟩, by repeat (first | exact ⟨0, rfl⟩ | exact ⟨_, rfl⟩ | refine drewN_ex ?_ _)⟩
    | false =>
      have hN := near_N (Flt.W x) (of_decide_eq_false hb)
      have HS : Hid (∀ w, Calls Try.prog 42 #[.float .f64 (Flt.W x)] w fun e w' => e = .returned (.float .f64 (Flt.sinR (Flt.W x))) ∧ ∃ m, w' = w.drewN m) := fun w => sine_spec_near _ w hN (by have := of_decide_eq_false hb; omega)
      have HN : Hid _ := narrow_N _ (Flt.sinR_N _ hN)
      clear hf hb hN
      generalize Flt.sinR (Flt.W x) = s at *
      go_enter Try.func7, Try.ntmps7
      go_wp2_with (first | (go_at_call 42; refine (HS.out _).mono ?_; rintro e w' ⟨rfl, m, rfl⟩) | go_in)
      go_ret
      exact ⟨_, rfl, HN.out _, by repeat (first | exact ⟨0, rfl⟩ | exact ⟨_, rfl⟩ | refine drewN_ex ?_ _)⟩

theorem wid_of' {v : Option Nat} {r : Nat} (h : Flt.Fl .f32 v r) (w : World) : Flt.Fl .f64 (Flt.wid v) (Flt.cB .f32 .f64 r w) := by
  have := Flt.widen_Fl r w
  rwa [h.cls] at this

theorem sineTurns_walk (x : Nat) (w : World) (_ : (Lit.float .f32 x).wf = true) : Calls Try.prog 3 #[.float .f32 x] w fun e w' => e = .returned (.bool true) ∧ Below w.heap.size w w' := by
  go_enter Try.func3, Try.ntmps3
  go_wp2_with (first | (go_at_call 7; refine (sin_spec _ _).mono ?_; rintro e w' ⟨r1, rfl, hr1, m, rfl⟩) | (go_at_call 8; refine (sin_impl _ _).mono ?_; rintro e w' ⟨r2, rfl, hr2, m2, rfl⟩) | (go_at_call 9; refine (sameFloat_any _ _ _ _ (wid_of' hr2 _) (wid_of' hr1 _)).mono ?_; rintro e w' ⟨rfl, rfl⟩))
  go_ret
  exact ⟨rfl, by repeat (first | exact Below.refl _ _ | refine below_drewN ?_ _)⟩

end Go.Proofs.Ytdomcjiiilbajaa

