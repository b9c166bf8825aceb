/- Contracts of the sine of turns on both sides, and the walk of its law. -/
import Derived.Test.YtdomcjiiilbajaaSinePlain
import Derived.Test.YtdomcjiiilbajaaMisc
import Derived.Test.YtdomcjiiilbajaaSame
namespace Go.Proofs.Ytdomcjiiilbajaa
open Go.RowKit
open Ieee

theorem run_trunc (b : Nat) (w : World) (h : Flt.rung FloatKind.f64.format b < FloatKind.f64.format.infRung) : (Extern.MathFloor.toIntegral "math.archTrunc" .zero #[.float .f64 b]).run Try.prog w = .ok (.float .f64 (Flt.trW b)) w := by
  change Sem.run Try.prog (match FloatKind.f64.decode b with
    | .nan s t =>
      if FloatKind.f64.format.quiet t = t then pure (Value.float .f64 b) else do
      let kept ← choose (.extern "math.Floor,Ceil,Trunc,RoundToEven.signallingNaN kept" 2)
      pure (Value.float .f64 (if kept == 1 then b else FloatKind.f64.encode (.nan s (FloatKind.f64.format.quiet t))))
    | d => pure (Value.float .f64 (FloatKind.f64.encode (d.integral .zero)))) w = _
  unfold Flt.trW
  rw [show FloatKind.f64.decode b = _ from Flt.read_num _ b h]
  rfl

theorem call_trunc (b : Nat) (w : World) (h : Flt.rung FloatKind.f64.format b < FloatKind.f64.format.infRung) : (callFunc 55 #[.float .f64 b]).run Try.prog w = .ok (.value (.float .f64 (Flt.trW b))) w := by
  rw [run_callFunc_extern (e := Extern.MathFloor.toIntegral "math.archTrunc" .zero) Try.func55 (by kernel_rfl) (by kernel_rfl) (by kernel_rfl) (by kernel_rfl), run_trunc b w h]
  rfl

theorem conv_whole (y : Nat) (h : Flt.N y 52) (w : World) : (convert 25 2 (.float .f64 y)).run Try.prog w = .ok (.int .i64 (Flt.wholeI y)) w :=
  run_convert_float_int w _ _ _ _ _ _ (by kernel_rfl) Try.underlying2 (Flt.whole_eq y h).2.2.2.2

theorem trW_lt (y : Nat) : Flt.trW y < 18446744073709551616 := FloatKind.f64.format.write_lt _

set_option maxHeartbeats 1000000 in
theorem part_impl (y : Nat) (w : World) (h : Flt.N y 52) : Calls Try.prog 35 #[.float .f64 y] w fun e w' => e = .returned (.float .f64 (Flt.up1 (Flt.sF y))) ∧ ∃ m, w' = w.drewN m := by
  obtain ⟨g1, g2, g3, g4, g5⟩ := Flt.whole_eq y h
  have hr := h.rung_le (by decide) (by decide)
  have hc : ∀ w, (callFunc 55 #[.float .f64 y]).run Try.prog w = .ok (.value (.float .f64 (Flt.trW y))) w := fun w => call_trunc y w hr
  have hq := (Flt.sF_o y h).1
  obtain ⟨u1, u2, u3⟩ := Flt.up1_o _ (Flt.sF_o y h).2
  have hrt := g3.rung_le (by decide) (by decide)
  have hz := Flt.feq (k := .f64) (a := Flt.trW y) (b := 0) (by omega) (by decide)
  rw [show Flt.srung FloatKind.f64.format 0 = 0 by decide] at hz
  have hlt := trW_lt y
  clear h hr g3 g4 g5
  by_cases hrz : Flt.rung FloatKind.f64.format (Flt.trW y) = 0
  · rw [decide_eq_true ((Flt.srung_zero_iff _ _).2 hrz)] at hz
    have ha : absB (Flt.trW y) = Flt.wholeW y := by rw [g1 hrz]; exact hrz
    clear g1 g2 hrz hrt
    generalize Flt.sF y = f0 at *
    generalize Flt.wholeW y = ww at *
    generalize Flt.trW y = tt at *
    generalize Flt.up1 f0 = f1 at *
    cases hl : (FloatKind.f64.format.order f0 0 == some .lt) with
    | true =>
      have u := u1 hl
      clear u1 u2 u3
      go_enter Try.func35, Try.ntmps35
      go_wp2_with (first | (go_at_call 30; refine (abs_any _ _ (by assumption)).mono ?_; rintro e w' ⟨rfl, rfl⟩; rw [ha]) | go_in)
      go_ret
      exact ⟨rfl, by repeat (first | exact ⟨0, rfl⟩ | exact ⟨_, rfl⟩ | refine drewN_ex ?_ _)⟩
    | false =>
      have u := u2 hl
      clear u1 u2 u3
      subst u
      go_enter Try.func35, Try.ntmps35
      go_wp2_with (first | (go_at_call 30; refine (abs_any _ _ (by assumption)).mono ?_; rintro e w' ⟨rfl, rfl⟩; rw [ha]) | go_in)
      go_ret
      exact ⟨rfl, by repeat (first | exact ⟨0, rfl⟩ | exact ⟨_, rfl⟩ | refine drewN_ex ?_ _)⟩
  · rw [decide_eq_false (fun e => hrz ((Flt.srung_zero_iff _ _).1 e))] at hz
    have ha : Flt.wholeW y = Flt.trW y := g2 hrz
    rw [ha] at hq
    clear g1 g2 hrz hrt ha
    generalize Flt.sF y = f0 at *
    generalize Flt.trW y = tt at *
    generalize Flt.up1 f0 = f1 at *
    cases hl : (FloatKind.f64.format.order f0 0 == some .lt) with
    | true =>
      have u := u1 hl
      clear u1 u2 u3
      go_enter Try.func35, Try.ntmps35
      go_wp2_with go_in
      go_ret
      exact ⟨rfl, by repeat (first | exact ⟨0, rfl⟩ | exact ⟨_, rfl⟩ | refine drewN_ex ?_ _)⟩
    | false =>
      have u := u2 hl
      clear u1 u2 u3
      subst u
      go_enter Try.func35, Try.ntmps35
      go_wp2_with go_in
      go_ret
      exact ⟨rfl, by repeat (first | exact ⟨0, rfl⟩ | exact ⟨_, rfl⟩ | refine drewN_ex ?_ _)⟩


theorem sub_self64 (x r : Nat) (h : Flt.Fl .f64 (Flt.fop .sub .f64 (Flt.cls .f64 x) (Flt.cls .f64 x)) r) : (FloatKind.f64.format.order r 0 == some .eq) = fin64B x := by
  have key : Flt.fop .sub .f64 (Flt.cls .f64 x) (Flt.cls .f64 x) = if fin64B x then some 0 else none := by
    rw [Flt.fop_cls]
    unfold fin64B
    show FloatKind.f64.format.sub x x = _
    rcases Nat.lt_trichotomy (Flt.rung FloatKind.f64.format x) FloatKind.f64.format.infRung with h | h | h
    · rw [decide_eq_true h]
      unfold Ieee.Format.sub
      rw [Flt.read_num _ x h]
      show some (FloatKind.f64.format.nearest _ _ _) = some 0
      congr 1
      unfold Ieee.Format.nearest
      rw [if_pos (by
        rw [Flt.signed_val, Flt.signed_val]
        cases Flt.sgn FloatKind.f64.format x <;> simp <;> omega)]
      rw [if_pos (by
        rw [Flt.signed_val, Flt.signed_val]
        cases Flt.sgn FloatKind.f64.format x <;> simp <;> omega)]
      cases Flt.sgn FloatKind.f64.format x <;> rfl
    · rw [decide_eq_false (by omega)]
      unfold Ieee.Format.sub
      rw [Flt.read_inf _ (Flt.ok _) x h]
      cases Flt.sgn FloatKind.f64.format x <;> rfl
    · rw [decide_eq_false (by omega)]
      unfold Ieee.Format.sub
      rw [Flt.read_nan _ (Flt.ok _) x h]; rfl
  rw [key] at h
  have hc := h.cls
  cases hf : fin64B x with
  | true =>
    rw [hf] at hc
    obtain ⟨e, _⟩ := Flt.cls_some hc
    rw [← e]; decide
  | false =>
    rw [hf] at hc
    rw [Flt.order_nan_left _ (Flt.ok _) _ _ (Flt.cls_none hc)]; rfl

theorem near_tests (y : Nat) (h : Flt.rung FloatKind.f64.format y < 4841369599423283200) : (∀ w, (FloatKind.f64.format.order (Flt.fB .sub .f64 y y w) 0 != some .eq) = false) ∧ (FloatKind.f64.format.order y 4841369599423283200 == some .gt || FloatKind.f64.format.order y 4841369599423283200 == some .eq) = false ∧ (FloatKind.f64.format.order y 14064741636278059008 == some .lt || FloatKind.f64.format.order y 14064741636278059008 == some .eq) = false := by
  have hi := Flt.inf64
  refine ⟨fun w => by rw [bne, sub_self64 y _ (Flt.fB_Fl .sub .f64 y y w)]; unfold fin64B; rw [decide_eq_true (by omega)]; rfl, ?_, ?_⟩
  · rw [Flt.fge (by omega) (by decide), decide_eq_false_iff_not, show Flt.srung FloatKind.f64.format 4841369599423283200 = 4841369599423283200 by decide]
    unfold Flt.srung
    cases Flt.sgn FloatKind.f64.format y <;> simp <;> omega
  · rw [Flt.fle (by omega) (by decide), decide_eq_false_iff_not, show Flt.srung FloatKind.f64.format 14064741636278059008 = -4841369599423283200 by decide]
    unfold Flt.srung
    cases Flt.sgn FloatKind.f64.format y <;> simp <;> omega

set_option maxHeartbeats 4000000 in
theorem sine_spec_near (y : Nat) (w : World) (h : Flt.N y 52) (hlt : Flt.rung FloatKind.f64.format y < 4841369599423283200) : Calls Try.prog 42 #[.float .f64 y] w fun e w' => e = .returned (.float .f64 (Flt.sinR y)) ∧ ∃ m, w' = w.drewN m := by
  obtain ⟨s1, s2⟩ := Flt.sF_o y h
  obtain ⟨u1, u2, u3⟩ := Flt.up1_o _ s2
  obtain ⟨f2, f3, z, u, v, b, c, hb, b1, b2, hcc, c1, c2, hz, hu, hs, hv, hR, _⟩ := Flt.sin_steps _ u3
  have HR0 : Hid (Flt.sinR y = bif b then Op.negFloat .f64 v else v) := hR y rfl
  have HS : Hid _ := hs
  have hcv : ∀ w, (convert 25 2 (.float .f64 y)).run Try.prog w = .ok (.int .i64 (Flt.wholeI y)) w := conv_whole y h
  have hn := near_tests y hlt
  have s1' : ∀ w, Flt.fB .sub .f64 y (floatOfInt .f64 (Flt.wholeI y)) w = Flt.sF y := s1
  obtain ⟨n1, n2, n3⟩ := hn
  clear hR hs h hlt s1 s2 u3
  generalize Flt.wholeI y = I at *
  generalize Flt.up1 (Flt.sF y) = f1 at *
  generalize Flt.sF y = f0 at *
  cases ha : (FloatKind.f64.format.order f0 0 == some .lt)
  all_goals (first | (have ux := u1 ha; clear u1 u2) | (have ux := u2 ha; clear u1 u2; subst ux))
  all_goals cases b
  all_goals (first | (have bx := b1 rfl; clear b1 b2) | (have bx := b2 rfl; clear b1 b2; subst bx))
  all_goals cases c
  all_goals (first | (have cx := c1 rfl; clear c1 c2) | (have cx := c2 rfl; clear c1 c2; subst cx))
  all_goals
    ((go_enter Try.func42, Try.ntmps42)
     (go_wp2)
     go_loopw [7, 8] (fun ps ks wr => ∃ (j : Nat) (r : Nat), j ≤ 8 ∧ ks = .int .i64 (8 - (j : Int)) ∧ ps = .float .f64 r ∧ Hid (r = Flt.sinP u j) ∧ Hid (∃ m, wr = w.drewN m)) (fun _ ks _ => (intOf ks + 2).toNat)
     case atStart => exact ⟨0, _, by omega, rfl, rfl, rfl, by repeat (first | exact ⟨0, rfl⟩ | exact ⟨_, rfl⟩ | refine drewN_ex ?_ _)⟩
     case round =>
       obtain ⟨j, r, hj, rfl, rfl, HQ, HW3⟩ := hrel
       by_cases hlt : j < 8
       · obtain ⟨r', HR, hs⟩ : ∃ r', Hid (r' = Flt.sinP u (j + 1)) ∧ ∀ w w2 w3, Flt.fB .sub .f64 4607182418800017408 (Flt.fB .quo .f64 (Flt.fB .mul .f64 u r w) (floatOfInt .f64 (Flt.sinK j)) w2) w3 = r' := ⟨_, rfl, by rw [HQ.out]; exact HS.out j hlt⟩
         clear HQ
         rcases (show j = 0 ∨ j = 1 ∨ j = 2 ∨ j = 3 ∨ j = 4 ∨ j = 5 ∨ j = 6 ∨ j = 7 by omega) with rfl | rfl | rfl | rfl | rfl | rfl | rfl | rfl
         · rw [show Flt.sinK 0 = 272 from rfl] at hs
           clear hlt hj
           go_wp2_with go_in
           go_roundw
           case rel => exact ⟨1, _, by omega, by go_num, rfl, HR, by repeat (first | exact HW3.out | refine drewN_ex ?_ _)⟩
           case measure => simp [intOf]
         · rw [show Flt.sinK 1 = 210 from rfl] at hs
           clear hlt hj
           go_wp2_with go_in
           go_roundw
           case rel => exact ⟨2, _, by omega, by go_num, rfl, HR, by repeat (first | exact HW3.out | refine drewN_ex ?_ _)⟩
           case measure => simp [intOf]
         · rw [show Flt.sinK 2 = 156 from rfl] at hs
           clear hlt hj
           go_wp2_with go_in
           go_roundw
           case rel => exact ⟨3, _, by omega, by go_num, rfl, HR, by repeat (first | exact HW3.out | refine drewN_ex ?_ _)⟩
           case measure => simp [intOf]
         · rw [show Flt.sinK 3 = 110 from rfl] at hs
           clear hlt hj
           go_wp2_with go_in
           go_roundw
           case rel => exact ⟨4, _, by omega, by go_num, rfl, HR, by repeat (first | exact HW3.out | refine drewN_ex ?_ _)⟩
           case measure => simp [intOf]
         · rw [show Flt.sinK 4 = 72 from rfl] at hs
           clear hlt hj
           go_wp2_with go_in
           go_roundw
           case rel => exact ⟨5, _, by omega, by go_num, rfl, HR, by repeat (first | exact HW3.out | refine drewN_ex ?_ _)⟩
           case measure => simp [intOf]
         · rw [show Flt.sinK 5 = 42 from rfl] at hs
           clear hlt hj
           go_wp2_with go_in
           go_roundw
           case rel => exact ⟨6, _, by omega, by go_num, rfl, HR, by repeat (first | exact HW3.out | refine drewN_ex ?_ _)⟩
           case measure => simp [intOf]
         · rw [show Flt.sinK 6 = 20 from rfl] at hs
           clear hlt hj
           go_wp2_with go_in
           go_roundw
           case rel => exact ⟨7, _, by omega, by go_num, rfl, HR, by repeat (first | exact HW3.out | refine drewN_ex ?_ _)⟩
           case measure => simp [intOf]
         · rw [show Flt.sinK 7 = 6 from rfl] at hs
           clear hlt hj
           go_wp2_with go_in
           go_roundw
           case rel => exact ⟨8, _, by omega, by go_num, rfl, HR, by repeat (first | exact HW3.out | refine drewN_ex ?_ _)⟩
           case measure => simp [intOf]
       · obtain rfl : j = 8 := by omega
         have hr := HQ.out
         clear HQ hj hlt HS
         subst hr
         go_wp2_with go_in
         go_ret
         refine ⟨?_, by repeat (first | exact HW3.out | refine drewN_ex ?_ _)⟩
         rw [HR0.out]; rfl
    )

set_option maxHeartbeats 4000000 in
theorem sine_impl_near (y : Nat) (w : World) (h : Flt.N y 52) : Calls Try.prog 28 #[.float .f64 y] w fun e w' => e = .returned (.float .f64 (Flt.sinR y)) ∧ ∃ m, w' = w.drewN m := by
  obtain ⟨s1, s2⟩ := Flt.sF_o y h
  obtain ⟨u1, u2, u3⟩ := Flt.up1_o _ s2
  obtain ⟨f2, f3, z, u, v, b, c, hb, b1, b2, hcc, c1, c2, hz, hu, hs, hv, hR, _⟩ := Flt.sin_steps _ u3
  have HR0 : Hid (Flt.sinR y = bif b then Op.negFloat .f64 v else v) := hR y rfl
  have HS : Hid _ := hs
  clear hR hs s1 s2 u1 u2 u3
  have hpart : ∀ w, Calls Try.prog 35 #[.float .f64 y] w fun e w' => e = .returned (.float .f64 (Flt.up1 (Flt.sF y))) ∧ ∃ m, w' = w.drewN m := fun w => part_impl y w h
  have HP : Hid _ := hpart
  clear hpart h
  generalize Flt.up1 (Flt.sF y) = f1 at *
  cases b
  all_goals (first | (have bx := b1 rfl; clear b1 b2) | (have bx := b2 rfl; clear b1 b2; subst bx))
  all_goals cases c
  all_goals (first | (have cx := c1 rfl; clear c1 c2) | (have cx := c2 rfl; clear c1 c2; subst cx))
  all_goals
    ((go_enter Try.func28, Try.ntmps28)
     (go_wp2_with (first | (go_at_call 35; refine (HP.out _).mono ?_; rintro e w' ⟨rfl, m, rfl⟩) | go_in))
     go_loopw [7, 8] (fun ps ks wr => ∃ (j : Nat) (r : Nat), j ≤ 8 ∧ ks = .int .i64 (8 - (j : Int)) ∧ ps = .float .f64 r ∧ Hid (r = Flt.sinP u j) ∧ Hid (∃ m, wr = w.drewN m)) (fun _ ks _ => (intOf ks + 2).toNat)
     case atStart => exact ⟨0, _, by omega, rfl, rfl, rfl, by repeat (first | exact ⟨0, rfl⟩ | exact ⟨_, rfl⟩ | refine drewN_ex ?_ _)⟩
     case round =>
       obtain ⟨j, r, hj, rfl, rfl, HQ, HW3⟩ := hrel
       by_cases hlt : j < 8
       · obtain ⟨r', HR, hs⟩ : ∃ r', Hid (r' = Flt.sinP u (j + 1)) ∧ ∀ w w2 w3, Flt.fB .sub .f64 4607182418800017408 (Flt.fB .quo .f64 (Flt.fB .mul .f64 u r w) (floatOfInt .f64 (Flt.sinK j)) w2) w3 = r' := ⟨_, rfl, by rw [HQ.out]; exact HS.out j hlt⟩
         clear HQ
         rcases (show j = 0 ∨ j = 1 ∨ j = 2 ∨ j = 3 ∨ j = 4 ∨ j = 5 ∨ j = 6 ∨ j = 7 by omega) with rfl | rfl | rfl | rfl | rfl | rfl | rfl | rfl
         · rw [show Flt.sinK 0 = 272 from rfl] at hs
           clear hlt hj
           go_wp2_with go_in
           go_roundw
           case rel => exact ⟨1, _, by omega, by go_num, rfl, HR, by repeat (first | exact HW3.out | refine drewN_ex ?_ _)⟩
           case measure => simp [intOf]
         · rw [show Flt.sinK 1 = 210 from rfl] at hs
           clear hlt hj
           go_wp2_with go_in
           go_roundw
           case rel => exact ⟨2, _, by omega, by go_num, rfl, HR, by repeat (first | exact HW3.out | refine drewN_ex ?_ _)⟩
           case measure => simp [intOf]
         · rw [show Flt.sinK 2 = 156 from rfl] at hs
           clear hlt hj
           go_wp2_with go_in
           go_roundw
           case rel => exact ⟨3, _, by omega, by go_num, rfl, HR, by repeat (first | exact HW3.out | refine drewN_ex ?_ _)⟩
           case measure => simp [intOf]
         · rw [show Flt.sinK 3 = 110 from rfl] at hs
           clear hlt hj
           go_wp2_with go_in
           go_roundw
           case rel => exact ⟨4, _, by omega, by go_num, rfl, HR, by repeat (first | exact HW3.out | refine drewN_ex ?_ _)⟩
           case measure => simp [intOf]
         · rw [show Flt.sinK 4 = 72 from rfl] at hs
           clear hlt hj
           go_wp2_with go_in
           go_roundw
           case rel => exact ⟨5, _, by omega, by go_num, rfl, HR, by repeat (first | exact HW3.out | refine drewN_ex ?_ _)⟩
           case measure => simp [intOf]
         · rw [show Flt.sinK 5 = 42 from rfl] at hs
           clear hlt hj
           go_wp2_with go_in
           go_roundw
           case rel => exact ⟨6, _, by omega, by go_num, rfl, HR, by repeat (first | exact HW3.out | refine drewN_ex ?_ _)⟩
           case measure => simp [intOf]
         · rw [show Flt.sinK 6 = 20 from rfl] at hs
           clear hlt hj
           go_wp2_with go_in
           go_roundw
           case rel => exact ⟨7, _, by omega, by go_num, rfl, HR, by repeat (first | exact HW3.out | refine drewN_ex ?_ _)⟩
           case measure => simp [intOf]
         · rw [show Flt.sinK 7 = 6 from rfl] at hs
           clear hlt hj
           go_wp2_with go_in
           go_roundw
           case rel => exact ⟨8, _, by omega, by go_num, rfl, HR, by repeat (first | exact HW3.out | refine drewN_ex ?_ _)⟩
           case measure => simp [intOf]
       · obtain rfl : j = 8 := by omega
         have hr := HQ.out
         clear HQ hj hlt HS
         subst hr
         go_wp2_with go_in
         go_ret
         refine ⟨?_, by repeat (first | exact HW3.out | refine drewN_ex ?_ _)⟩
         rw [HR0.out]; rfl
    )

end Go.Proofs.Ytdomcjiiilbajaa
