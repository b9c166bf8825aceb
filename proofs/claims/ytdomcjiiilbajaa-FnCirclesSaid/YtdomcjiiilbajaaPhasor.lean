/- Contracts of the phasor on both sides, and the walk of its law. -/
import Derived.Test.YtdomcjiiilbajaaPhasorPlain
import Derived.Test.YtdomcjiiilbajaaSineLaw
namespace Go.Proofs.Ytdomcjiiilbajaa
open Go.RowKit
open Ieee

theorem narrow_101 (r : Nat) (h : Flt.N r 101) (w : World) : Flt.Fl .f32 (Flt.nar (some r)) (Flt.cB .f64 .f32 r w) := by
  have hr := h.rung_le (by decide) (by decide)
  have hc : Flt.cls .f64 r = some r := by unfold Flt.cls; rw [if_neg (by omega)]
  have := Flt.narrow_Fl r w (by rw [hc]; exact Flt.narOk_of h.nb (by decide))
  rwa [hc] at this

@[go_sem] theorem run_convert_complex (re im : Nat) (w : World) : (convert 29 32 (.complex .f32 re im)).run Try.prog w = .ok (.complex .f64 (Flt.cB .f32 .f64 re w) (Flt.cB .f32 .f64 im (w.drewN (Flt.cN .f32 .f64 re)))) ((w.drewN (Flt.cN .f32 .f64 re)).drewN (Flt.cN .f32 .f64 im)) := by
  have key : ∀ b w, (Conv.floatToFloat .f32 b .f64).run Try.prog w = .ok (.float .f64 (Flt.cB .f32 .f64 b w)) (w.drewN (Flt.cN .f32 .f64 b)) := fun b w => by
    have h := Flt.run_widen (P := Try.prog) 22 25 b w (by kernel_rfl) (by kernel_rfl)
    have red : (convert 22 25 (.float .f32 b)).run Try.prog w = (Conv.floatToFloat .f32 b .f64).run Try.prog w := by
      have hs : Try.prog.underlying 22 = some (.float .f32) := by kernel_rfl
      have hd : Try.prog.underlying 25 = some (.float .f64) := by kernel_rfl
      simp [convert, run_underlying hs, run_underlying hd]
    rw [← red]; exact h
  have hs : Try.prog.underlying 29 = some (.complex .f32) := by kernel_rfl
  have hd : Try.prog.underlying 32 = some (.complex .f64) := by kernel_rfl
  have red : (convert 29 32 (.complex .f32 re im)).run Try.prog w = (Conv.complexToComplex .f32 re im .f64).run Try.prog w := by
    simp [convert, run_underlying hs, run_underlying hd]
  rw [red]
  unfold Conv.complexToComplex
  simp [key]

def phClass (y : Nat) : Option Nat × Option Nat :=
  bif fin64B y then (bif farY y then (some 1065353216, some 0) else (Flt.nar (some (Flt.phP y).1), Flt.nar (some (Flt.phP y).2))) else (none, none)
where farY (y : Nat) : Bool := decide (4841369599423283200 ≤ Flt.rung FloatKind.f64.format y)

set_option maxHeartbeats 4000000 in
theorem phasor_spec_near (y : Nat) (w : World) (h : Flt.N y 52) (hlt : Flt.rung FloatKind.f64.format y < 4841369599423283200) : Calls Try.prog 33 #[.float .f64 y] w fun e w' => ∃ a b, e = .returned (.complex .f32 a b) ∧ Flt.Fl .f32 (Flt.nar (some (Flt.phP y).1)) a ∧ Flt.Fl .f32 (Flt.nar (some (Flt.phP y).2)) b ∧ ∃ m, w' = w.drewN m := by
  obtain ⟨s1, s2⟩ := Flt.sF_o y h
  obtain ⟨u1, u2, u3⟩ := Flt.up1_o _ s2
  have hcv : ∀ w, (convert 25 2 (.float .f64 y)).run Try.prog w = .ok (.int .i64 (Flt.wholeI y)) w := conv_whole y h
  have s1' : ∀ w, Flt.fB .sub .f64 y (floatOfInt .f64 (Flt.wholeI y)) w = Flt.sF y := s1
  obtain ⟨n1, n2, n3⟩ := near_tests y hlt
  obtain ⟨f1, hf1⟩ : ∃ f1, f1 = Flt.up1 (Flt.sF y) := ⟨_, rfl⟩
  have HU : Hid (Flt.phP y = Flt.phQ (Flt.phE f1).2 (Flt.sinR (Flt.o .sub 4598175219545276416 (Flt.phE f1).1)) (Flt.sinR (Flt.phE f1).1)) := by
    show Flt.phP y = _
    unfold Flt.phP; rw [hf1]
  rw [← hf1] at u1 u2 u3
  have HF : Hid (Flt.N f1 0 ∧ Flt.rung FloatKind.f64.format f1 ≤ 4607182418800017408) := ⟨u3, by
    have hone : Flt.pw FloatKind.f64.format 0 = 4607182418800017408 := by decide +kernel
    rw [← hone]; exact u3⟩
  have HStart : Hid (Flt.phL (Flt.rung FloatKind.f64.format f1) f1 0 = Flt.phE f1) := by show _ = _; unfold Flt.phE; rfl
  have HF2 : (0 : Int) + ((Flt.rung FloatKind.f64.format f1 : Nat) : Int) ≤ 4607182418800017408 := by have := HF.out.2; omega
  clear h hlt s1 s2 u3 hf1
  generalize Flt.wholeI y = I at *
  generalize Flt.sF y = f0 at *
  cases ha : (FloatKind.f64.format.order f0 0 == some .lt)
  all_goals (first | (have ux := u1 ha; clear u1 u2) | (have ux := (u2 ha).symm; clear u1 u2; subst ux))
  all_goals
    ((go_enter Try.func33, Try.ntmps33)
     (go_wp2)
     go_loopw [3, 4] (fun fs ks wr => ∃ (n f : Nat) (k : Int), fs = .float .f64 f ∧ ks = .int .i64 k ∧ Hid (Flt.phL n f k = Flt.phE f1) ∧ Hid (Flt.N f 0 ∧ Flt.rung FloatKind.f64.format f ≤ n) ∧ 0 ≤ k ∧ k + n ≤ 4607182418800017408 ∧ Hid (∃ m, wr = w.drewN m)) (fun fs _ _ => Flt.rung FloatKind.f64.format (fltOf fs))
     case atStart => exact ⟨Flt.rung FloatKind.f64.format f1, f1, 0, rfl, rfl, HStart, ⟨HF.out.1, Nat.le_refl _⟩, by decide, HF2, by repeat (first | exact ⟨0, rfl⟩ | exact ⟨_, rfl⟩ | refine drewN_ex ?_ _)⟩
     case round =>
       obtain ⟨n, f, k, rfl, rfl, HL, HNf, hk0, hk1, HW⟩ := hrel
       cases hg : Flt.geq f with
       | true =>
         have ht : (FloatKind.f64.format.order f 4598175219545276416 == some .gt || FloatKind.f64.format.order f 4598175219545276416 == some .eq) = true := hg
         obtain ⟨s1, s2, s3⟩ := Flt.quarter_step f HNf.out.1 hg
         obtain ⟨n', hn'⟩ : ∃ n', n = n' + 1 := ⟨n - 1, by have := HNf.out.2; omega⟩
         subst hn'
         have HL' : Hid (Flt.phL n' (Flt.o .sub f 4598175219545276416) (k + 1) = Flt.phE f1) := by
           rw [← HL.out]
           show _ = Flt.phL (n' + 1) f k
           conv => rhs; unfold Flt.phL
           rw [hg]; rfl
         have HN' : Hid (Flt.N (Flt.o .sub f 4598175219545276416) 0 ∧ Flt.rung FloatKind.f64.format (Flt.o .sub f 4598175219545276416) ≤ n') := ⟨s2, by have := HNf.out.2; omega⟩
         have HM : Hid (Flt.rung FloatKind.f64.format (Flt.o .sub f 4598175219545276416) < Flt.rung FloatKind.f64.format f) := s3
         clear HL HNf s2 s3 hg
         generalize Flt.o .sub f 4598175219545276416 = f' at *
         go_wp2_with go_in
         go_roundw
         case rel => exact ⟨n', f', k + 1, rfl, by go_num, HL', HN', by omega, by omega, by repeat (first | exact HW.out | exact ⟨0, rfl⟩ | exact ⟨_, rfl⟩ | refine drewN_ex ?_ _)⟩
         case measure => exact HM.out
       | false =>
         have ht : (FloatKind.f64.format.order f 4598175219545276416 == some .gt || FloatKind.f64.format.order f 4598175219545276416 == some .eq) = false := hg
         have hE : Flt.phE f1 = (f, k) := by rw [← HL.out]; exact Flt.phL_stop _ _ _ hg
         have hNf := HNf.out.1
         obtain ⟨c1, c2⟩ := Flt.o_sub Flt.N_quart hNf
         have HPv : Hid (Flt.phP y = Flt.phQ k (Flt.sinR (Flt.o .sub 4598175219545276416 f)) (Flt.sinR f)) := by
           show Flt.phP y = _
           rw [HU.out, hE]
         have nc := Flt.near_of _ (0 + 1) (by decide) c2
         have nf := Flt.near_of _ 0 (by decide) hNf
         have r1 := Flt.sinR_N _ nc.1
         have r2 := Flt.sinR_N _ nf.1
         obtain ⟨z1, z1N⟩ := Flt.neg0_o _ r1
         obtain ⟨z2, z2N⟩ := Flt.neg0_o _ r2
         have H1 : Hid _ := narrow_101 _ (r1.mono (by decide))
         have H2 : Hid _ := narrow_101 _ (r2.mono (by decide))
         have H3 : Hid _ := narrow_101 _ z1N
         have H4 : Hid _ := narrow_101 _ z2N
         have HS1 : Hid (∀ w, Calls Try.prog 42 #[.float .f64 (Flt.o .sub 4598175219545276416 f)] w fun e w' => e = .returned (.float .f64 (Flt.sinR (Flt.o .sub 4598175219545276416 f))) ∧ ∃ m, w' = w.drewN m) := fun w => sine_spec_near _ w nc.1 nc.2
         have HS2 : Hid (∀ w, Calls Try.prog 42 #[.float .f64 f] w fun e w' => e = .returned (.float .f64 (Flt.sinR f)) ∧ ∃ m, w' = w.drewN m) := fun w => sine_spec_near _ w nf.1 nf.2
         clear HL HNf hE hNf c2 nc nf r1 r2 z1N z2N hg
         generalize Flt.o .sub 4598175219545276416 f = cf at *
         generalize Flt.sinR cf = re at *
         generalize Flt.sinR f = im at *
         rcases (show k = 1 ∨ k = 2 ∨ k = 3 ∨ (k ≠ 1 ∧ k ≠ 2 ∧ k ≠ 3) by omega) with rfl | rfl | rfl | ⟨k1, k2, k3⟩
         all_goals
           ((go_wp2_with (first | (go_at_call 42; first | ((with_reducible refine (HS1.out _).mono ?_); rintro e w' ⟨rfl, m, rfl⟩) | ((with_reducible refine (HS2.out _).mono ?_); rintro e w' ⟨rfl, m, rfl⟩)) | go_in))
            (go_ret)
            (refine ⟨_, _, rfl, ?_, ?_, by repeat (first | exact HW.out | exact ⟨0, rfl⟩ | exact ⟨_, rfl⟩ | refine drewN_ex ?_ _)⟩))
         all_goals (first | rw [HPv.out, Flt.phQ_1] | rw [HPv.out, Flt.phQ_2] | rw [HPv.out, Flt.phQ_3] | rw [HPv.out, Flt.phQ_o _ _ _ (by assumption) (by assumption) (by assumption)])
         all_goals (first | exact H1.out _ | exact H2.out _ | exact H3.out _ | exact H4.out _))

set_option maxHeartbeats 4000000 in
theorem phasor_impl_near (y : Nat) (w : World) (hly : y < 18446744073709551616) (hfin : fin64B y = true) (h : Flt.N y 52) (hfar : phClass.farY y = false) : Calls Try.prog 13 #[.float .f64 y] w fun e w' => ∃ a b, e = .returned (.complex .f32 a b) ∧ Flt.Fl .f32 (Flt.nar (some (Flt.phP y).1)) a ∧ Flt.Fl .f32 (Flt.nar (some (Flt.phP y).2)) b ∧ ∃ m, w' = w.drewN m := by
  obtain ⟨s1, s2⟩ := Flt.sF_o y h
  have u3 := (Flt.up1_o _ s2).2.2
  have HP : Hid (∀ w, Calls Try.prog 35 #[.float .f64 y] w fun e w' => e = .returned (.float .f64 (Flt.up1 (Flt.sF y))) ∧ ∃ m, w' = w.drewN m) := fun w => part_impl y w h
  have HFar : Hid (∀ w, Calls Try.prog 27 #[.float .f64 y] w fun e w' => e = .returned (.bool false) ∧ w' = w) := fun w => by
    have := isFar_impl y w hly hfin
    rwa [show decide (4841369599423283200 ≤ Flt.rung FloatKind.f64.format y) = false from hfar] at this
  obtain ⟨f1, hf1⟩ : ∃ f1, f1 = Flt.up1 (Flt.sF y) := ⟨_, rfl⟩
  have HU : Hid (Flt.phP y = Flt.phQ (Flt.phE f1).2 (Flt.sinR (Flt.o .sub 4598175219545276416 (Flt.phE f1).1)) (Flt.sinR (Flt.phE f1).1)) := by
    show Flt.phP y = _
    unfold Flt.phP; rw [hf1]
  rw [← hf1] at u3
  rw [← hf1] at HP
  have HF : Hid (Flt.N f1 0 ∧ Flt.rung FloatKind.f64.format f1 ≤ 4607182418800017408) := ⟨u3, by
    have hone : Flt.pw FloatKind.f64.format 0 = 4607182418800017408 := by decide +kernel
    rw [← hone]; exact u3⟩
  have HStart : Hid (Flt.phL (Flt.rung FloatKind.f64.format f1) f1 0 = Flt.phE f1) := by show _ = _; unfold Flt.phE; rfl
  have HF2 : (0 : Int) + ((Flt.rung FloatKind.f64.format f1 : Nat) : Int) ≤ 4607182418800017408 := by have := HF.out.2; omega
  clear h s1 s2 u3 hf1 hfar
  go_enter Try.func13, Try.ntmps13
  go_wp2_with (first | (go_at_call 34; refine (isFinite64_any _ _ (by assumption)).mono ?_; rw [hfin]; rintro e w' ⟨rfl, hw'⟩; have hw2 := hw'.symm; clear hw'; subst hw2) | (go_at_call 27; refine (HFar.out _).mono ?_; rintro e w' ⟨rfl, hw'⟩; have hw2 := hw'.symm; clear hw'; subst hw2) | (go_at_call 35; refine (HP.out _).mono ?_; rintro e w' ⟨rfl, m, rfl⟩) | go_in)
  go_loopw [4, 5] (fun fs ks wr => ∃ (n f : Nat) (k : Int), fs = .float .f64 f ∧ ks = .int .i64 k ∧ Hid (Flt.phL n f k = Flt.phE f1) ∧ Hid (Flt.N f 0 ∧ Flt.rung FloatKind.f64.format f ≤ n) ∧ 0 ≤ k ∧ k + n ≤ 4607182418800017408 ∧ Hid (∃ m, wr = w.drewN m)) (fun fs _ _ => Flt.rung FloatKind.f64.format (fltOf fs))
  case atStart => exact ⟨Flt.rung FloatKind.f64.format f1, f1, 0, rfl, rfl, HStart, ⟨HF.out.1, Nat.le_refl _⟩, by decide, HF2, by repeat (first | exact ⟨0, rfl⟩ | exact ⟨_, rfl⟩ | refine drewN_ex ?_ _)⟩
  case round =>
    obtain ⟨n, f, k, rfl, rfl, HL, HNf, hk0, hk1, HW⟩ := hrel
    cases hg : Flt.geq f with
    | true =>
      have ht : (FloatKind.f64.format.order f 4598175219545276416 == some .gt || FloatKind.f64.format.order f 4598175219545276416 == some .eq) = true := hg
      obtain ⟨s1, s2, s3⟩ := Flt.quarter_step f HNf.out.1 hg
      obtain ⟨n', hn'⟩ : ∃ n', n = n' + 1 := ⟨n - 1, by have := HNf.out.2; omega⟩
      subst hn'
      have HL' : Hid (Flt.phL n' (Flt.o .sub f 4598175219545276416) (k + 1) = Flt.phE f1) := by
        rw [← HL.out]
        show _ = Flt.phL (n' + 1) f k
        conv => rhs; unfold Flt.phL
        rw [hg]; rfl
      have HN' : Hid (Flt.N (Flt.o .sub f 4598175219545276416) 0 ∧ Flt.rung FloatKind.f64.format (Flt.o .sub f 4598175219545276416) ≤ n') := ⟨s2, by have := HNf.out.2; omega⟩
      have HM : Hid (Flt.rung FloatKind.f64.format (Flt.o .sub f 4598175219545276416) < Flt.rung FloatKind.f64.format f) := s3
      clear HL HNf s2 s3 hg
      generalize Flt.o .sub f 4598175219545276416 = f' at *
      go_wp2_with go_in
      go_roundw
      case rel => exact ⟨n', f', k + 1, rfl, by go_num, HL', HN', by omega, by omega, by repeat (first | exact HW.out | exact ⟨0, rfl⟩ | exact ⟨_, rfl⟩ | refine drewN_ex ?_ _)⟩
      case measure => exact HM.out
    | false =>
      have ht : (FloatKind.f64.format.order f 4598175219545276416 == some .gt || FloatKind.f64.format.order f 4598175219545276416 == some .eq) = false := hg
      have hE : Flt.phE f1 = (f, k) := by rw [← HL.out]; exact Flt.phL_stop _ _ _ hg
      have hNf := HNf.out.1
      obtain ⟨c1, c2⟩ := Flt.o_sub Flt.N_quart hNf
      have HPv : Hid (Flt.phP y = Flt.phQ k (Flt.sinR (Flt.o .sub 4598175219545276416 f)) (Flt.sinR f)) := by
        show Flt.phP y = _
        rw [HU.out, hE]
      have nc := Flt.near_of _ (0 + 1) (by decide) c2
      have nf := Flt.near_of _ 0 (by decide) hNf
      have r1 := Flt.sinR_N _ nc.1
      have r2 := Flt.sinR_N _ nf.1
      obtain ⟨z1, z1N⟩ := Flt.neg0_o _ r1
      obtain ⟨z2, z2N⟩ := Flt.neg0_o _ r2
      have H1 : Hid _ := narrow_101 _ (r1.mono (by decide))
      have H2 : Hid _ := narrow_101 _ (r2.mono (by decide))
      have H3 : Hid _ := narrow_101 _ z1N
      have H4 : Hid _ := narrow_101 _ z2N
      have HS1 : Hid (∀ w, Calls Try.prog 28 #[.float .f64 (Flt.o .sub 4598175219545276416 f)] w fun e w' => e = .returned (.float .f64 (Flt.sinR (Flt.o .sub 4598175219545276416 f))) ∧ ∃ m, w' = w.drewN m) := fun w => sine_impl_near _ w nc.1
      have HS2 : Hid (∀ w, Calls Try.prog 28 #[.float .f64 f] w fun e w' => e = .returned (.float .f64 (Flt.sinR f)) ∧ ∃ m, w' = w.drewN m) := fun w => sine_impl_near _ w nf.1
      clear HL HNf hE hNf c2 nc nf r1 r2 z1N z2N hg
      generalize Flt.o .sub 4598175219545276416 f = cf at *
      generalize Flt.sinR cf = re at *
      generalize Flt.sinR f = im at *
      rcases (show k = 1 ∨ k = 2 ∨ k = 3 ∨ (k ≠ 1 ∧ k ≠ 2 ∧ k ≠ 3) by omega) with rfl | rfl | rfl | ⟨k1, k2, k3⟩
      all_goals
        ((go_wp2_with (first | (go_at_call 28; first | ((with_reducible refine (HS1.out _).mono ?_); rintro e w' ⟨rfl, m, rfl⟩) | ((with_reducible refine (HS2.out _).mono ?_); rintro e w' ⟨rfl, m, rfl⟩)) | go_in))
         (go_ret)
         (refine ⟨_, _, rfl, ?_, ?_, by repeat (first | exact HW.out | exact ⟨0, rfl⟩ | exact ⟨_, rfl⟩ | refine drewN_ex ?_ _)⟩))
      all_goals (first | rw [HPv.out, Flt.phQ_1] | rw [HPv.out, Flt.phQ_2] | rw [HPv.out, Flt.phQ_3] | rw [HPv.out, Flt.phQ_o _ _ _ (by assumption) (by assumption) (by assumption)])
      all_goals (first | exact H1.out _ | exact H2.out _ | exact H3.out _ | exact H4.out _)

@[go_sem] theorem call_Float32frombits (n : Int) (w : World) : (callFunc 54 #[.int .u32 n]).run Try.prog w = .ok (.value (.float .f32 n.toNat)) w := by kernel_rfl

set_option maxHeartbeats 1000000 in
theorem ph_spec (y : Nat) (w : World) : Calls Try.prog 12 #[.float .f64 y] w fun e w' => ∃ a b, e = .returned (.complex .f32 a b) ∧ Flt.Fl .f32 (phClass y).1 a ∧ Flt.Fl .f32 (phClass y).2 b ∧ ∃ m, w' = w.drewN m := by
  unfold phClass
  cases hf : fin64B y with
  | false =>
    have h1 : ∀ w, (FloatKind.f64.format.order (Flt.fB .sub .f64 y y w) 0 != some .eq) = true := fun w => by rw [bne, sub_self64 y _ (Flt.fB_Fl .sub .f64 y y w), hf]; rfl
    clear hf
    go_enter Try.func12, Try.ntmps12
    go_wp2
    go_ret
    exact ⟨_, _, rfl, ⟨show Flt.cls .f32 2143289344 = none by decide +kernel, by decide⟩, ⟨show Flt.cls .f32 2143289344 = none by decide +kernel, by decide⟩, by repeat (first | exact ⟨0, rfl⟩ | exact ⟨_, rfl⟩ | refine drewN_ex ?_ _)⟩
  | true =>
    cases hfar : phClass.farY y with
    | true =>
      obtain ⟨h1, h2⟩ := far_tests y hf (of_decide_eq_true hfar)
      clear hf hfar
      rcases h2 with h2 | ⟨h2, h3⟩
      all_goals
        go_enter Try.func12, Try.ntmps12
        go_wp2
        go_ret
        exact ⟨_, _, rfl, ⟨show Flt.cls .f32 1065353216 = some 1065353216 by decide +kernel, by decide⟩, ⟨show Flt.cls .f32 0 = some 0 by decide +kernel, by decide⟩, by repeat (first | exact ⟨0, rfl⟩ | exact ⟨_, rfl⟩ | refine drewN_ex ?_ _)⟩
    | false =>
      have hn := of_decide_eq_false hfar
      have HS : Hid (∀ w, Calls Try.prog 33 #[.float .f64 y] w fun e w' => ∃ a b, e = .returned (.complex .f32 a b) ∧ Flt.Fl .f32 (Flt.nar (some (Flt.phP y).1)) a ∧ Flt.Fl .f32 (Flt.nar (some (Flt.phP y).2)) b ∧ ∃ m, w' = w.drewN m) := fun w => phasor_spec_near y w (near_N y hn) (by omega)
      clear hn hf hfar
      go_enter Try.func12, Try.ntmps12
      go_wp2_with (first | (go_at_call 33; refine (HS.out _).mono ?_; rintro e w' ⟨a, b, rfl, ha, hb, m, rfl⟩) | go_in)
      go_ret
      exact ⟨_, _, rfl, ha, hb, by repeat (first | exact ⟨0, rfl⟩ | exact ⟨_, rfl⟩ | refine drewN_ex ?_ _)⟩

set_option maxHeartbeats 1000000 in
theorem ph_impl (y : Nat) (w : World) (hly : y < 18446744073709551616) : Calls Try.prog 13 #[.float .f64 y] w fun e w' => ∃ a b, e = .returned (.complex .f32 a b) ∧ Flt.Fl .f32 (phClass y).1 a ∧ Flt.Fl .f32 (phClass y).2 b ∧ ∃ m, w' = w.drewN m := by
  unfold phClass
  cases hfin : fin64B y with
  | false =>
    have hn := fun w => nan_narrow w
    go_enter Try.func13, Try.ntmps13
    go_wp2_with (first | (go_at_call 34; refine (isFinite64_any _ _ (by assumption)).mono ?_; rw [hfin]; rintro e w' ⟨rfl, hw'⟩; have hw2 := hw'.symm; clear hw'; subst hw2) | go_in)
    go_ret
    exact ⟨_, _, rfl, hn _, hn _, by repeat (first | exact ⟨0, rfl⟩ | exact ⟨_, rfl⟩ | refine drewN_ex ?_ _)⟩
  | true =>
    cases hfar : phClass.farY y with
    | true =>
      have HFar : Hid (∀ w, Calls Try.prog 27 #[.float .f64 y] w fun e w' => e = .returned (.bool true) ∧ w' = w) := fun w => by
        have := isFar_impl y w hly hfin
        rwa [show decide (4841369599423283200 ≤ Flt.rung FloatKind.f64.format y) = true from hfar] at this
      clear hfar
      go_enter Try.func13, Try.ntmps13
      go_wp2_with (first | (go_at_call 34; refine (isFinite64_any _ _ (by assumption)).mono ?_; rw [hfin]; rintro e w' ⟨rfl, hw'⟩; have hw2 := hw'.symm; clear hw'; subst hw2) | (go_at_call 27; refine (HFar.out _).mono ?_; rintro e w' ⟨rfl, hw'⟩; have hw2 := hw'.symm; clear hw'; subst hw2) | go_in)
      go_ret
      exact ⟨_, _, rfl, ⟨show Flt.cls .f32 1065353216 = some 1065353216 by decide +kernel, by decide⟩, ⟨show Flt.cls .f32 0 = some 0 by decide +kernel, by decide⟩, by repeat (first | exact ⟨0, rfl⟩ | exact ⟨_, rfl⟩ | refine drewN_ex ?_ _)⟩
    | false => exact phasor_impl_near y w hly hfin (near_N y (of_decide_eq_false hfar)) hfar

set_option maxHeartbeats 1000000 in
theorem phasorOf_walk (y : Nat) (w : World) (hy0 : (Lit.float .f64 y).wf = true) : Calls Try.prog 5 #[.float .f64 y] w fun e w' => e = .returned (.bool true) ∧ Below w.heap.size w w' := by
  have hly : y < 18446744073709551616 := by simpa [Lit.wf] using hy0
  clear hy0
  go_enter Try.func5, Try.ntmps5
  go_wp2_with (first | (go_at_call 12; refine (ph_spec _ _).mono ?_; rintro e w' ⟨a1, b1, rfl, ha1, hb1, m, rfl⟩) | (go_at_call 13; refine (ph_impl _ _ hly).mono ?_; rintro e w' ⟨a2, b2, rfl, ha2, hb2, m2, rfl⟩) | (go_at_call 9; first | ((with_reducible refine (sameFloat_any _ _ _ _ (wid_of' ha2 _) (wid_of' ha1 _)).mono ?_); rintro e w' ⟨rfl, rfl⟩) | ((with_reducible refine (sameFloat_any _ _ _ _ (wid_of' hb2 _) (wid_of' hb1 _)).mono ?_); rintro e w' ⟨rfl, rfl⟩)) | go_in)
  go_ret
  exact ⟨rfl, by repeat (first | exact Below.refl _ _ | refine below_drewN ?_ _)⟩

end Go.Proofs.Ytdomcjiiilbajaa
