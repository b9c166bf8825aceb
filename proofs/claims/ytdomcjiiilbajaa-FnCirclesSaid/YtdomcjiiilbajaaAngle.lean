/- Contracts of the angle in turns on both sides, and the walk of its law. -/
import Derived.Test.YtdomcjiiilbajaaAnglePlain
import Derived.Test.YtdomcjiiilbajaaSineLaw
namespace Go.Proofs.Ytdomcjiiilbajaa
open Go.RowKit
open Ieee

/-- math.Sqrt's own operation -/
theorem run_sqrt (x : Nat) (w : World) : (Extern.MathSqrt.sqrt #[.float .f64 x]).run Try.prog w = .ok (.float .f64 (Flt.sB x w)) (w.drewN (Flt.sN x)) := by
  change Sem.run Try.prog (match FloatKind.f64.format.sqrt x with
    | some r => pure (Value.float .f64 r)
    | none => do pure (Value.float .f64 (← choose (.nanBits .f64 x x)))) w = _
  unfold Flt.sB Flt.sN
  have hfo : (Question.nanBits .f64 x x).forced = false := rfl
  cases hq : FloatKind.f64.format.sqrt x with
  | some r => simp; rfl
  | none => simp [hfo]; rfl

@[go_sem] theorem call_sqrt (x : Nat) (w : World) : (callFunc 46 #[.float .f64 x]).run Try.prog w = .ok (.value (.float .f64 (Flt.sB x w))) (w.drewN (Flt.sN x)) := by
  rw [run_callFunc_extern (e := Extern.MathSqrt.sqrt) Try.func46 (by kernel_rfl) (by kernel_rfl) (by kernel_rfl) (by kernel_rfl), run_sqrt]
  rfl

theorem self_eq64 (y : Nat) (h : fin64B y = true) : ∀ w, (FloatKind.f64.format.order (Flt.fB .sub .f64 y y w) 0 != some .eq) = false := fun w => by rw [bne, sub_self64 y _ (Flt.fB_Fl .sub .f64 y y w), h]; rfl
theorem self_ne64 (y : Nat) (h : fin64B y = false) : ∀ w, (FloatKind.f64.format.order (Flt.fB .sub .f64 y y w) 0 != some .eq) = true := fun w => by rw [bne, sub_self64 y _ (Flt.fB_Fl .sub .f64 y y w), h]; rfl
theorem zero64 (y : Nat) (h : fin64B y = true) : (FloatKind.f64.format.order y 0 == some .eq) = decide (Flt.rung FloatKind.f64.format y = 0) := by
  have hr : Flt.rung FloatKind.f64.format y < FloatKind.f64.format.infRung := of_decide_eq_true h
  rw [Flt.feq (by omega) (by decide), show Flt.srung FloatKind.f64.format 0 = 0 by decide, Bool.eq_iff_iff, decide_eq_true_iff, decide_eq_true_iff]
  exact Flt.srung_zero_iff _ _

set_option maxHeartbeats 4000000 in
theorem angle_spec_main (y x : Nat) (w : World) (hly : y < 18446744073709551616) (hlx : x < 18446744073709551616) (fy : fin64B y = true) (fx : fin64B x = true) (hz : ¬ (Flt.rung FloatKind.f64.format x = 0 ∧ Flt.rung FloatKind.f64.format y = 0)) : Calls Try.prog 44 #[.float .f64 y, .float .f64 x] w fun e w' => e = .returned (.float .f64 (Flt.angW y x)) ∧ ∃ m, w' = w.drewN m := by
  have hry : Flt.rung FloatKind.f64.format y < FloatKind.f64.format.infRung := of_decide_eq_true fy
  have hrx : Flt.rung FloatKind.f64.format x < FloatKind.f64.format.infRung := of_decide_eq_true fx
  have hsy := self_eq64 y fy
  have hsx := self_eq64 x fx
  have hzx := zero64 x fx
  have hzy := zero64 y fy
  have hz2 : (FloatKind.f64.format.order x 0 == some .eq) = false ∨ ((FloatKind.f64.format.order x 0 == some .eq) = true ∧ (FloatKind.f64.format.order y 0 == some .eq) = false) := by
    rw [hzx, hzy]
    by_cases h : Flt.rung FloatKind.f64.format x = 0
    · right; exact ⟨decide_eq_true h, decide_eq_false (fun e => hz ⟨h, e⟩)⟩
    · left; exact decide_eq_false h
  have hl1 := absB_lt y
  have hl2 := absB_lt x
  obtain ⟨q1, q2, qN⟩ := Flt.angA_o y x hry hrx hz
  have hgt := Flt.fgt (k := .f64) (a := absB y) (b := absB x) (by rw [rung_absB]; omega) (by rw [rung_absB]; omega)
  rw [srung_absB, srung_absB, show decide ((Flt.rung FloatKind.f64.format x : Int) < (Flt.rung FloatKind.f64.format y : Int)) = decide (Flt.rung FloatKind.f64.format x < Flt.rung FloatKind.f64.format y) by rw [Bool.eq_iff_iff, decide_eq_true_iff, decide_eq_true_iff]; omega] at hgt
  obtain ⟨t3, u, r, h3, ht, hu, hp, hr, hre, hN⟩ := Flt.ang_steps _ qN
  have HT3 : Hid _ := h3
  have HT : Hid _ := ht
  have HP : Hid _ := hp
  have hgq := Flt.angQ_o r hN (decide (Flt.rung FloatKind.f64.format x < Flt.rung FloatKind.f64.format y))
  have hgx := Flt.angX_o _ hgq.2.2 (FloatKind.f64.format.order x 0 == some .lt)
  have HV : Hid (Flt.angW y x = Flt.angY (FloatKind.f64.format.order y 0 == some .lt) (Flt.angX (FloatKind.f64.format.order x 0 == some .lt) (Flt.angQ (decide (Flt.rung FloatKind.f64.format x < Flt.rung FloatKind.f64.format y)) r))) := by
    show Flt.angW y x = _
    unfold Flt.angW
    rw [← hre]
  obtain ⟨gq1, gq2, _⟩ := hgq
  obtain ⟨gx1, gx2, _⟩ := hgx
  have q1' : decide (Flt.rung FloatKind.f64.format x < Flt.rung FloatKind.f64.format y) = true → ∀ w, Flt.fB .quo .f64 (absB x) (absB y) w = Flt.angA y x := q1
  have q2' : decide (Flt.rung FloatKind.f64.format x < Flt.rung FloatKind.f64.format y) = false → ∀ w, Flt.fB .quo .f64 (absB y) (absB x) w = Flt.angA y x := q2
  clear q1 q2 h3 ht hp hre hN qN
  generalize Flt.angW y x = R at *
  generalize Flt.angA y x = t0 at *
  clear hzx hzy hz fy fx hry hrx
  generalize hbx : (FloatKind.f64.format.order x 0 == some .lt) = bx at *
  generalize hby0 : (FloatKind.f64.format.order y 0 == some .lt) = hby at *
  generalize decide (Flt.rung FloatKind.f64.format x < Flt.rung FloatKind.f64.format y) = g at *
  generalize hqv : Flt.angQ g r = q at *
  generalize hxv : Flt.angX bx q = xv at *
  clear hqv hxv
  rcases hz2 with hz2 | ⟨hz2, hz3⟩
  all_goals cases g
  all_goals cases bx
  all_goals (first | have qa := q1' rfl | have qa := q2' rfl)
  all_goals (first | have HQQ : Hid _ := gq1 rfl | have HQQ : Hid _ := gq2 rfl)
  all_goals (first | have HXX : Hid _ := gx1 rfl | have HXX : Hid _ := gx2 rfl)
  all_goals clear q1' q2' gq1 gq2 gx1 gx2
  all_goals
    ((go_enter Try.func44, Try.ntmps44)
     (go_wp2_with (first | (go_at_call 30; refine (abs_any _ _ (by assumption)).mono ?_; rintro e w' ⟨rfl, rfl⟩) | go_in))
     go_loopw [8, 9] (fun ts is wr => ∃ (i : Nat) (t : Nat), i ≤ 3 ∧ is = .int .i64 (i : Int) ∧ ts = .float .f64 t ∧ Hid (t = Flt.angT t0 i) ∧ Hid (∃ m, wr = w.drewN m)) (fun _ is _ => 3 - (intOf is).toNat)
     case atStart => exact ⟨0, _, by omega, rfl, rfl, rfl, by repeat (first | exact ⟨0, rfl⟩ | exact ⟨_, rfl⟩ | refine drewN_ex ?_ _)⟩
     case round =>
       obtain ⟨i, t, hi, rfl, rfl, HQ, HW⟩ := hrel
       by_cases hlt : i < 3
       · obtain ⟨t', HR, hs⟩ : ∃ t', Hid (t' = Flt.angT t0 (i + 1)) ∧ ∀ w1 w2 w3 w4 w5, Flt.fB .quo .f64 t (Flt.fB .add .f64 4607182418800017408 (Flt.sB (Flt.fB .add .f64 4607182418800017408 (Flt.fB .mul .f64 t t w1) w2) w3) w4) w5 = t' := ⟨_, rfl, by rw [HQ.out]; exact HT.out i⟩
         clear HQ
         go_wp2_with go_in
         go_roundw
         case rel => exact ⟨i + 1, _, by omega, by go_num, rfl, HR, by repeat (first | exact HW.out | exact ⟨0, rfl⟩ | exact ⟨_, rfl⟩ | refine drewN_ex ?_ _)⟩
         case measure => simp [intOf]; omega
       · obtain rfl : i = 3 := by omega
         have ht : t = t3 := HQ.out.trans HT3.out.symm
         clear HQ hlt hi HT HT3
         subst ht
         go_wp2_with go_in
         go_loopw [11, 12] (fun ps ks wr => ∃ (j : Nat) (r : Nat), j ≤ 8 ∧ ks = .int .i64 (15 - 2 * (j : Int)) ∧ ps = .float .f64 r ∧ Hid (r = Flt.angP u j) ∧ Hid (∃ m, wr = w.drewN m)) (fun _ ks _ => (intOf ks + 2).toNat)
         case atStart => exact ⟨0, _, by omega, rfl, rfl, rfl, by repeat (first | exact HW.out | exact ⟨0, rfl⟩ | exact ⟨_, rfl⟩ | refine drewN_ex ?_ _)⟩
         case round =>
           clear HW
           obtain ⟨j, p, hj, rfl, rfl, HQ, HW⟩ := hrel
           by_cases hlt : j < 8
           · obtain ⟨p', HR, hs⟩ : ∃ p', Hid (p' = Flt.angP u (j + 1)) ∧ ∀ w w2 w3, Flt.fB .sub .f64 (Flt.fB .quo .f64 4607182418800017408 (floatOfInt .f64 (15 - 2 * (j : Int))) w) (Flt.fB .mul .f64 u p w2) w3 = p' := ⟨_, rfl, by rw [HQ.out]; exact HP.out j hlt⟩
             clear HQ
             go_wp2_with go_in
             go_roundw
             case rel => exact ⟨j + 1, _, by omega, by go_num, rfl, HR, by repeat (first | exact HW.out | exact ⟨0, rfl⟩ | exact ⟨_, rfl⟩ | refine drewN_ex ?_ _)⟩
             case measure => simp [intOf]; omega
           · obtain rfl : j = 8 := by omega
             have hr := HQ.out
             clear HQ hj hlt HP
             subst hr
             have qq := HQQ.out
             have xx := HXX.out
             clear HQQ HXX
             cases hby
             all_goals
               ((try (subst qq))
                (try (subst xx))
                (go_wp2_with go_in)
                (go_ret)
                (exact ⟨by rw [HV.out]; rfl, by repeat (first | exact HW.out | exact ⟨0, rfl⟩ | exact ⟨_, rfl⟩ | refine drewN_ex ?_ _)⟩))
    )


theorem neg32 (x : Nat) (h : finB x = true) : (FloatKind.f32.format.order x 0 == some .lt) = (FloatKind.f64.format.order (Flt.W x) 0 == some .lt) := by
  have hr : Flt.rung FloatKind.f32.format x < FloatKind.f32.format.infRung := of_decide_eq_true h
  have hr2 := Flt.W_rung x (by omega)
  rw [Flt.flt (by omega) (by decide), Flt.flt hr2 (by decide), show Flt.srung FloatKind.f32.format 0 = 0 by decide, show Flt.srung FloatKind.f64.format 0 = 0 by decide, Bool.eq_iff_iff, decide_eq_true_iff, decide_eq_true_iff]
  have h0 := Flt.W_zero_iff x (by omega)
  have hs := Flt.sgn_W x (by omega)
  unfold Flt.srung
  rw [hs]
  cases Flt.sgn FloatKind.f32.format x <;> simp <;> omega

theorem zero32 (x : Nat) (h : finB x = true) : (FloatKind.f32.format.order x 0 == some .eq) = decide (Flt.rung FloatKind.f64.format (Flt.W x) = 0) := by
  have hr : Flt.rung FloatKind.f32.format x < FloatKind.f32.format.infRung := of_decide_eq_true h
  rw [Flt.feq (by omega) (by decide), show Flt.srung FloatKind.f32.format 0 = 0 by decide, Bool.eq_iff_iff, decide_eq_true_iff, decide_eq_true_iff, Flt.W_zero_iff x (by omega)]
  exact Flt.srung_zero_iff _ _

set_option maxHeartbeats 4000000 in
theorem angle_impl_main (y0 x0 : Nat) (w : World) (hfy : finB y0 = true) (hfx : finB x0 = true) (hz : ¬ (Flt.rung FloatKind.f64.format (Flt.W x0) = 0 ∧ Flt.rung FloatKind.f64.format (Flt.W y0) = 0)) : Calls Try.prog 11 #[.float .f32 y0, .float .f32 x0] w fun e w' => ∃ r, e = .returned (.float .f32 r) ∧ Flt.Fl .f32 (Flt.nar (some (Flt.angW (Flt.W y0) (Flt.W x0)))) r ∧ ∃ m, w' = w.drewN m := by
  obtain ⟨hwy, fy⟩ := fin_W y0 hfy
  obtain ⟨hwx, fx⟩ := fin_W x0 hfx
  have hny := neg32 y0 hfy
  have hnx := neg32 x0 hfx
  have hzx := zero32 x0 hfx
  have hzy := zero32 y0 hfy
  have hly := Flt.W_lt y0
  have hlx := Flt.W_lt x0
  have hz2 : (FloatKind.f32.format.order x0 0 == some .eq) = false ∨ ((FloatKind.f32.format.order x0 0 == some .eq) = true ∧ (FloatKind.f32.format.order y0 0 == some .eq) = false) := by
    rw [hzx, hzy]
    by_cases h : Flt.rung FloatKind.f64.format (Flt.W x0) = 0
    · right; exact ⟨decide_eq_true h, decide_eq_false (fun e => hz ⟨h, e⟩)⟩
    · left; exact decide_eq_false h
  generalize Flt.W y0 = y at *
  generalize Flt.W x0 = x at *
  have hry : Flt.rung FloatKind.f64.format y < FloatKind.f64.format.infRung := of_decide_eq_true fy
  have hrx : Flt.rung FloatKind.f64.format x < FloatKind.f64.format.infRung := of_decide_eq_true fx
  have HN : Hid (∀ w, Flt.Fl .f32 (Flt.nar (some (Flt.angW y x))) (Flt.cB .f64 .f32 (Flt.angW y x) w)) := narrow_N _ (Flt.angW_N y x hry hrx hz)
  have hl1 := absB_lt y
  have hl2 := absB_lt x
  obtain ⟨q1, q2, qN⟩ := Flt.angA_o y x hry hrx hz
  have hgt := Flt.fgt (k := .f64) (a := absB y) (b := absB x) (by rw [rung_absB]; omega) (by rw [rung_absB]; omega)
  rw [srung_absB, srung_absB, show decide ((Flt.rung FloatKind.f64.format x : Int) < (Flt.rung FloatKind.f64.format y : Int)) = decide (Flt.rung FloatKind.f64.format x < Flt.rung FloatKind.f64.format y) by rw [Bool.eq_iff_iff, decide_eq_true_iff, decide_eq_true_iff]; omega] at hgt
  obtain ⟨t3, u, r, h3, ht, hu, hp, hr, hre, hN⟩ := Flt.ang_steps _ qN
  have HT3 : Hid _ := h3
  have HT : Hid _ := ht
  have HP : Hid _ := hp
  have hgq := Flt.angQ_o r hN (decide (Flt.rung FloatKind.f64.format x < Flt.rung FloatKind.f64.format y))
  have hgx := Flt.angX_o _ hgq.2.2 (FloatKind.f64.format.order x 0 == some .lt)
  have HV : Hid (Flt.angW y x = Flt.angY (FloatKind.f64.format.order y 0 == some .lt) (Flt.angX (FloatKind.f64.format.order x 0 == some .lt) (Flt.angQ (decide (Flt.rung FloatKind.f64.format x < Flt.rung FloatKind.f64.format y)) r))) := by
    show Flt.angW y x = _
    unfold Flt.angW
    rw [← hre]
  obtain ⟨gq1, gq2, _⟩ := hgq
  obtain ⟨gx1, gx2, _⟩ := hgx
  have q1' : decide (Flt.rung FloatKind.f64.format x < Flt.rung FloatKind.f64.format y) = true → ∀ w, Flt.fB .quo .f64 (absB x) (absB y) w = Flt.angA y x := q1
  have q2' : decide (Flt.rung FloatKind.f64.format x < Flt.rung FloatKind.f64.format y) = false → ∀ w, Flt.fB .quo .f64 (absB y) (absB x) w = Flt.angA y x := q2
  clear q1 q2 h3 ht hp hre hN qN
  generalize Flt.angW y x = R at *
  generalize Flt.angA y x = t0 at *
  clear hzx hzy hz fy fx hry hrx
  generalize hbx : (FloatKind.f64.format.order x 0 == some .lt) = bx at *
  generalize hby0 : (FloatKind.f64.format.order y 0 == some .lt) = hby at *
  clear hbx hby0
  generalize decide (Flt.rung FloatKind.f64.format x < Flt.rung FloatKind.f64.format y) = g at *
  generalize hqv : Flt.angQ g r = q at *
  generalize hxv : Flt.angX bx q = xv at *
  clear hqv hxv
  rcases hz2 with hz2 | ⟨hz2, hz3⟩
  all_goals cases g
  all_goals cases bx
  all_goals (first | have qa := q1' rfl | have qa := q2' rfl)
  all_goals (first | have HQQ : Hid _ := gq1 rfl | have HQQ : Hid _ := gq2 rfl)
  all_goals (first | have HXX : Hid _ := gx1 rfl | have HXX : Hid _ := gx2 rfl)
  all_goals clear q1' q2' gq1 gq2 gx1 gx2
  all_goals
    ((go_enter Try.func11, Try.ntmps11)
     (go_wp2_with (first | (go_at_call 25; refine (isFinite_impl _ _).mono ?_; (first | rw [hfx] | rw [hfy]); rintro e w' ⟨rfl, m, rfl⟩) | (go_at_call 30; refine (abs_any _ _ (by assumption)).mono ?_; rintro e w' ⟨rfl, rfl⟩) | go_in))
     go_loopw [7, 45] (fun ts is wr => ∃ (i : Nat) (t : Nat), i ≤ 3 ∧ is = .int .i64 (i : Int) ∧ ts = .float .f64 t ∧ Hid (t = Flt.angT t0 i) ∧ Hid (∃ m, wr = w.drewN m)) (fun _ is _ => 3 - (intOf is).toNat)
     case atStart => exact ⟨0, _, by omega, rfl, rfl, rfl, by repeat (first | exact ⟨0, rfl⟩ | exact ⟨_, rfl⟩ | refine drewN_ex ?_ _)⟩
     case round =>
       obtain ⟨i, t, hi, rfl, rfl, HQ, HW⟩ := hrel
       by_cases hlt : i < 3
       · obtain ⟨t', HR, hs⟩ : ∃ t', Hid (t' = Flt.angT t0 (i + 1)) ∧ ∀ w1 w2 w3 w4 w5, Flt.fB .quo .f64 t (Flt.fB .add .f64 4607182418800017408 (Flt.sB (Flt.fB .add .f64 4607182418800017408 (Flt.fB .mul .f64 t t w1) w2) w3) w4) w5 = t' := ⟨_, rfl, by rw [HQ.out]; exact HT.out i⟩
         clear HQ
         go_wp2_with go_in
         go_roundw
         case rel => exact ⟨i + 1, _, by omega, by go_num, rfl, HR, by repeat (first | exact HW.out | exact ⟨0, rfl⟩ | exact ⟨_, rfl⟩ | refine drewN_ex ?_ _)⟩
         case measure => simp [intOf]; omega
       · obtain rfl : i = 3 := by omega
         have ht : t = t3 := HQ.out.trans HT3.out.symm
         clear HQ hlt hi HT HT3
         subst ht
         go_wp2_with go_in
         go_loopw [9, 10] (fun ps ks wr => ∃ (j : Nat) (r : Nat), j ≤ 8 ∧ ks = .int .i64 (15 - 2 * (j : Int)) ∧ ps = .float .f64 r ∧ Hid (r = Flt.angP u j) ∧ Hid (∃ m, wr = w.drewN m)) (fun _ ks _ => (intOf ks + 2).toNat)
         case atStart => exact ⟨0, _, by omega, rfl, rfl, rfl, by repeat (first | exact HW.out | exact ⟨0, rfl⟩ | exact ⟨_, rfl⟩ | refine drewN_ex ?_ _)⟩
         case round =>
           clear HW
           obtain ⟨j, p, hj, rfl, rfl, HQ, HW⟩ := hrel
           by_cases hlt : j < 8
           · obtain ⟨p', HR, hs⟩ : ∃ p', Hid (p' = Flt.angP u (j + 1)) ∧ ∀ w w2 w3, Flt.fB .sub .f64 (Flt.fB .quo .f64 4607182418800017408 (floatOfInt .f64 (15 - 2 * (j : Int))) w) (Flt.fB .mul .f64 u p w2) w3 = p' := ⟨_, rfl, by rw [HQ.out]; exact HP.out j hlt⟩
             clear HQ
             go_wp2_with go_in
             go_roundw
             case rel => exact ⟨j + 1, _, by omega, by go_num, rfl, HR, by repeat (first | exact HW.out | exact ⟨0, rfl⟩ | exact ⟨_, rfl⟩ | refine drewN_ex ?_ _)⟩
             case measure => simp [intOf]; omega
           · obtain rfl : j = 8 := by omega
             have hr := HQ.out
             clear HQ hj hlt HP
             subst hr
             have qq := HQQ.out
             have xx := HXX.out
             clear HQQ HXX
             cases hby
             all_goals
               ((try (subst qq))
                (try (subst xx))
                (go_wp2_with go_in)
                (go_ret)
                (refine ⟨_, rfl, ?_, by repeat (first | exact HW.out | exact ⟨0, rfl⟩ | exact ⟨_, rfl⟩ | refine drewN_ex ?_ _)⟩)
                (have hh := HN.out)
                (rw [HV.out] at hh ⊢)
                (exact hh _))
    )


/-- the class of the angle of two float32 -/
def angF (y x : Nat) : Option Nat :=
  bif finB x && finB y then (bif zeroP y x then some 0 else Flt.nar (some (Flt.angW (Flt.W y) (Flt.W x)))) else none
where zeroP (y x : Nat) : Bool := decide (Flt.rung FloatKind.f64.format (Flt.W x) = 0 ∧ Flt.rung FloatKind.f64.format (Flt.W y) = 0)

set_option maxHeartbeats 1000000 in
theorem angle_spec_nan (y x : Nat) (w : World) (h : (fin64B x && fin64B y) = false) : Calls Try.prog 44 #[.float .f64 y, .float .f64 x] w fun e w' => e = .returned (.float .f64 9221120237041090561) ∧ ∃ m, w' = w.drewN m := by
  cases fy : fin64B y with
  | false =>
    have h1 := self_ne64 y fy
    clear h fy
    go_enter Try.func44, Try.ntmps44
    go_wp2
    go_ret
    exact ⟨rfl, by repeat (first | exact ⟨0, rfl⟩ | exact ⟨_, rfl⟩ | refine drewN_ex ?_ _)⟩
  | true =>
    have fx : fin64B x = false := by rw [fy, Bool.and_true] at h; exact h
    have h1 := self_eq64 y fy
    have h2 := self_ne64 x fx
    clear h fy fx
    go_enter Try.func44, Try.ntmps44
    go_wp2
    go_ret
    exact ⟨rfl, by repeat (first | exact ⟨0, rfl⟩ | exact ⟨_, rfl⟩ | refine drewN_ex ?_ _)⟩

set_option maxHeartbeats 1000000 in
theorem angle_spec_zero (y x : Nat) (w : World) (fy : fin64B y = true) (fx : fin64B x = true) (hx : Flt.rung FloatKind.f64.format x = 0) (hy : Flt.rung FloatKind.f64.format y = 0) : Calls Try.prog 44 #[.float .f64 y, .float .f64 x] w fun e w' => e = .returned (.float .f64 0) ∧ ∃ m, w' = w.drewN m := by
  have h1 := self_eq64 y fy
  have h2 := self_eq64 x fx
  have h3 := zero64 x fx
  have h4 := zero64 y fy
  rw [decide_eq_true hx] at h3
  rw [decide_eq_true hy] at h4
  clear fx fy hx hy
  go_enter Try.func44, Try.ntmps44
  go_wp2
  go_ret
  exact ⟨rfl, by repeat (first | exact ⟨0, rfl⟩ | exact ⟨_, rfl⟩ | refine drewN_ex ?_ _)⟩

set_option maxHeartbeats 1000000 in
theorem ang_impl (y x : Nat) (w : World) : Calls Try.prog 11 #[.float .f32 y, .float .f32 x] w fun e w' => ∃ r, e = .returned (.float .f32 r) ∧ Flt.Fl .f32 (angF y x) r ∧ ∃ m, w' = w.drewN m := by
  unfold angF
  cases hfx : finB x with
  | false =>
    have hn := fun w => nan_narrow w
    go_enter Try.func11, Try.ntmps11
    go_wp2_with (first | (go_at_call 25; refine (isFinite_impl _ _).mono ?_; (first | rw [hfx] | rw [hfy]); rintro e w' ⟨rfl, m, rfl⟩) | go_in)
    go_ret
    exact ⟨_, rfl, hn _, by repeat (first | exact ⟨0, rfl⟩ | exact ⟨_, rfl⟩ | refine drewN_ex ?_ _)⟩
  | true =>
    cases hfy : finB y with
    | false =>
      have hn := fun w => nan_narrow w
      go_enter Try.func11, Try.ntmps11
      go_wp2_with (first | (go_at_call 25; refine (isFinite_impl _ _).mono ?_; (first | rw [hfx] | rw [hfy]); rintro e w' ⟨rfl, m, rfl⟩) | go_in)
      go_ret
      exact ⟨_, rfl, hn _, by repeat (first | exact ⟨0, rfl⟩ | exact ⟨_, rfl⟩ | refine drewN_ex ?_ _)⟩
    | true =>
      cases hz : angF.zeroP y x with
      | true =>
        obtain ⟨zx, zy⟩ := of_decide_eq_true hz
        have h1 := zero32 x hfx
        have h2 := zero32 y hfy
        rw [decide_eq_true zx] at h1
        rw [decide_eq_true zy] at h2
        clear zx zy hz
        go_enter Try.func11, Try.ntmps11
        go_wp2_with (first | (go_at_call 25; refine (isFinite_impl _ _).mono ?_; (first | rw [hfx] | rw [hfy]); rintro e w' ⟨rfl, m, rfl⟩) | go_in)
        go_ret
        exact ⟨_, rfl, ⟨show Flt.cls .f32 0 = some 0 by decide, by decide⟩, by repeat (first | exact ⟨0, rfl⟩ | exact ⟨_, rfl⟩ | refine drewN_ex ?_ _)⟩
      | false => exact angle_impl_main y x w hfy hfx (of_decide_eq_false hz)

set_option maxHeartbeats 1000000 in
theorem ang_spec (y x : Nat) (w : World) : Calls Try.prog 10 #[.float .f32 y, .float .f32 x] w fun e w' => ∃ r, e = .returned (.float .f32 r) ∧ Flt.Fl .f32 (angF y x) r ∧ ∃ m, w' = w.drewN m := by
  unfold angF
  cases hb : (finB x && finB y) with
  | false =>
    have hn := fun w => nan_narrow w
    have HS : Hid (∀ w1 w2 w', Calls Try.prog 44 #[.float .f64 (Flt.cB .f32 .f64 y w1), .float .f64 (Flt.cB .f32 .f64 x w2)] w' fun e w'' => e = .returned (.float .f64 9221120237041090561) ∧ ∃ m, w'' = w'.drewN m) := fun w1 w2 w' => angle_spec_nan _ _ _ (by rw [fin_wid x _ (Flt.widen_Fl x w2), fin_wid y _ (Flt.widen_Fl y w1), hb])
    go_enter Try.func10, Try.ntmps10
    go_wp2_with (first | (go_at_call 44; refine (HS.out _ _ _).mono ?_; rintro e w' ⟨rfl, m, rfl⟩) | go_in)
    go_ret
    exact ⟨_, rfl, hn _, by repeat (first | exact ⟨0, rfl⟩ | exact ⟨_, rfl⟩ | refine drewN_ex ?_ _)⟩
  | true =>
    obtain ⟨hfx, hfy⟩ : finB x = true ∧ finB y = true := by simpa using hb
    obtain ⟨hwy, fy⟩ := fin_W y hfy
    obtain ⟨hwx, fx⟩ := fin_W x hfx
    cases hz : angF.zeroP y x with
    | true =>
      obtain ⟨zx, zy⟩ := of_decide_eq_true hz
      have HS : Hid (∀ w', Calls Try.prog 44 #[.float .f64 (Flt.W y), .float .f64 (Flt.W x)] w' fun e w'' => e = .returned (.float .f64 0) ∧ ∃ m, w'' = w'.drewN m) := fun w' => angle_spec_zero _ _ _ fy fx zx zy
      have hn := zero_narrow
      clear zx zy hz fx fy hfx hfy hb
      go_enter Try.func10, Try.ntmps10
      go_wp2_with (first | (go_at_call 44; refine (HS.out _).mono ?_; rintro e w' ⟨rfl, m, rfl⟩) | go_in)
      go_ret
      exact ⟨_, rfl, ⟨show Flt.cls .f32 0 = some 0 by decide, by decide⟩, by repeat (first | exact ⟨0, rfl⟩ | exact ⟨_, rfl⟩ | refine drewN_ex ?_ _)⟩
    | false =>
      have hz' := of_decide_eq_false hz
      have HS : Hid (∀ w', Calls Try.prog 44 #[.float .f64 (Flt.W y), .float .f64 (Flt.W x)] w' fun e w'' => e = .returned (.float .f64 (Flt.angW (Flt.W y) (Flt.W x))) ∧ ∃ m, w'' = w'.drewN m) := fun w' => angle_spec_main _ _ _ (Flt.W_lt _) (Flt.W_lt _) fy fx hz'
      have HN : Hid _ := narrow_N _ (Flt.angW_N (Flt.W y) (Flt.W x) (of_decide_eq_true fy) (of_decide_eq_true fx) hz')
      clear hz hz' fx fy hfx hfy hb
      generalize Flt.angW (Flt.W y) (Flt.W x) = s at *
      go_enter Try.func10, Try.ntmps10
      go_wp2_with (first | (go_at_call 44; refine (HS.out _).mono ?_; rintro e w' ⟨rfl, m, rfl⟩) | go_in)
      go_ret
      exact ⟨_, rfl, HN.out _, by repeat (first | exact ⟨0, rfl⟩ | exact ⟨_, rfl⟩ | refine drewN_ex ?_ _)⟩

theorem angleTurns_walk (y x : Nat) (w : World) (_ : (Lit.float .f32 y).wf = true) (_ : (Lit.float .f32 x).wf = true) : Calls Try.prog 4 #[.float .f32 y, .float .f32 x] w fun e w' => e = .returned (.bool true) ∧ Below w.heap.size w w' := by
  go_enter Try.func4, Try.ntmps4
  go_wp2_with (first | (go_at_call 10; refine (ang_spec _ _ _).mono ?_; rintro e w' ⟨r1, rfl, hr1, m, rfl⟩) | (go_at_call 11; refine (ang_impl _ _ _).mono ?_; rintro e w' ⟨r2, rfl, hr2, m2, rfl⟩) | (go_at_call 9; refine (sameFloat_any _ _ _ _ (wid_of' hr2 _) (wid_of' hr1 _)).mono ?_; rintro e w' ⟨rfl, rfl⟩))
  go_ret
  exact ⟨rfl, by repeat (first | exact Below.refl _ _ | refine below_drewN ?_ _)⟩

end Go.Proofs.Ytdomcjiiilbajaa
