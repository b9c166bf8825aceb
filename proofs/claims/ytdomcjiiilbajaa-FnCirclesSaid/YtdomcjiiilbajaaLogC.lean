/- The contract of the program's logarithm at positive finite numbers. -/
import Derived.Test.YtdomcjiiilbajaaMisc
namespace Go.Proofs.Ytdomcjiiilbajaa
open Go.RowKit

set_option maxHeartbeats 2000000 in
theorem log_impl (x0 : Nat) (y : Value) (w : World) (hy : ∃ z, y = .float .f32 z ∧ ∀ w, Flt.cB .f32 .f64 z w = x0) (h1 : 3936146074321813504 ≤ x0) (h2 : x0 < 9218868437227405312) :
    Calls Try.prog 39 #[y] w fun e w' => ∃ r, e = .returned (.float .f64 r) ∧ Flt.Fl .f64 (Flt.logV x0) r ∧ ∃ m, w' = w.drewN m := by
  obtain ⟨z, rfl, hz⟩ := hy
  have H2 : Hid (x0 < 9218868437227405312) := h2
  have H1 : Hid (3936146074321813504 ≤ x0) := h1
  clear h1 h2
  go_enter Try.func39, Try.ntmps39
  go_wp2
  go_loopw [3, 4] (fun xs es wr => ∃ (f : Nat) (x : Nat) (e : Int), xs = .float .f64 x ∧ es = .int .i64 e ∧ Hid (Flt.hal f x e = Flt.hal 2100 x0 0 ∧ x < 9218868437227405312 ∧ x < 4609434218613702656 + f * 4503599627370496 ∧ 3936146074321813504 ≤ x) ∧ 0 ≤ e ∧ e + f ≤ 2100 ∧ Hid (∃ m, wr = w.drewN m)) (fun xs _ _ => fltOf xs)
  case atStart => exact ⟨2100, x0, 0, rfl, rfl, ⟨rfl, H2.out, by have := H2.out; omega, H1.out⟩, by omega, by omega, by first | exact ⟨0, rfl⟩ | exact drewN_ex ⟨0, rfl⟩ _⟩
  case round =>
    obtain ⟨f, x, e, rfl, rfl, HH, he1, he2, HW⟩ := hrel
    cases hc : decide (4609434218613702656 ≤ x) with
    | true =>
      have ht : (FloatKind.f64.format.order x 4609434218613702656 == some .gt || FloatKind.f64.format.order x 4609434218613702656 == some .eq) = true := by rw [Flt.ge_small x _ HH.out.2.1 (by decide)]; exact hc
      have hc' := of_decide_eq_true hc
      obtain ⟨f', hf⟩ : ∃ f', f = f' + 1 := ⟨f - 1, by have := HH.out.2.2.1; omega⟩
      subst hf
      obtain ⟨x', hx'⟩ : ∃ x', x' = x - 4503599627370496 := ⟨_, rfl⟩
      have hq : ∀ w, Flt.fB .quo .f64 x 4611686018427387904 w = x' := fun w => by rw [hx']; exact fB_some (Flt.half x (by omega) HH.out.2.1) w
      have HN : Hid (Flt.hal f' x' (e + 1) = Flt.hal 2100 x0 0 ∧ x' < 9218868437227405312 ∧ x' < 4609434218613702656 + f' * 4503599627370496 ∧ 3936146074321813504 ≤ x') := by
        obtain ⟨g1, g2, g3, g4⟩ := HH.out
        refine ⟨?_, by omega, by omega, by omega⟩
        rw [← g1, hx']
        conv => rhs; unfold Flt.hal
        rw [if_pos hc']
      have HM : Hid (x' < x) := by show x' < x; omega
      clear HH hc hc' hx'
      go_wp2
      go_roundw
      case rel => exact ⟨f', x', e + 1, rfl, rfl, HN, by omega, by omega, drewN_ex HW.out _⟩
      case measure => exact HM.out
    | false =>
      have ht : (FloatKind.f64.format.order x 4609434218613702656 == some .gt || FloatKind.f64.format.order x 4609434218613702656 == some .eq) = false := by rw [Flt.ge_small x _ HH.out.2.1 (by decide)]; exact hc
      have hc' := of_decide_eq_false hc
      have HX : Hid (Flt.hal 2100 x0 0 = (x, e) ∧ x < 4609434218613702656 ∧ 3936146074321813504 ≤ x) := by
        obtain ⟨g1, g2, g3, g4⟩ := HH.out
        exact ⟨by rw [← g1, Flt.hal_stop _ _ _ hc'], by omega, g4⟩
      clear HH hc hc'
      go_wp2
      go_loopw [3, 4] (fun xs es wr => ∃ (f : Nat) (z : Nat) (d : Int), xs = .float .f64 z ∧ es = .int .i64 d ∧ Hid (Flt.dbl f z d = Flt.dbl 2100 x e ∧ z < 4609434218613702656 ∧ 4604930618986332160 ≤ z + f * 4503599627370496 ∧ 3936146074321813504 ≤ z) ∧ e - 2100 + f ≤ d ∧ d ≤ e ∧ Hid (∃ m, wr = w.drewN m)) (fun xs _ _ => 4609434218613702656 - fltOf xs)
      case atStart => exact ⟨2100, x, e, rfl, rfl, ⟨rfl, HX.out.2.1, by have := HX.out.2.2; omega, HX.out.2.2⟩, by omega, by omega, HW⟩
      case round =>
        obtain ⟨f2, z, d, rfl, rfl, HH, hd1, hd2, HW2⟩ := hrel
        cases hc : decide (z < 4604930618986332160) with
        | true =>
          have ht : (FloatKind.f64.format.order z 4604930618986332160 == some .lt) = true := by rw [Flt.lt_small z _ (by have := HH.out.2.1; omega) (by decide)]; exact hc
          have hc' := of_decide_eq_true hc
          obtain ⟨f', hf⟩ : ∃ f', f2 = f' + 1 := ⟨f2 - 1, by have := HH.out.2.2.1; omega⟩
          subst hf
          obtain ⟨z', hz'⟩ : ∃ z', z' = z + 4503599627370496 := ⟨_, rfl⟩
          have hq : ∀ w, Flt.fB .mul .f64 z 4611686018427387904 w = z' := fun w => by rw [hz']; exact fB_some (Flt.double z (by have := HH.out.2.2.2; omega) (by omega)) w
          have HN : Hid (Flt.dbl f' z' (d - 1) = Flt.dbl 2100 x e ∧ z' < 4609434218613702656 ∧ 4604930618986332160 ≤ z' + f' * 4503599627370496 ∧ 3936146074321813504 ≤ z') := by
            obtain ⟨g1, g2, g3, g4⟩ := HH.out
            refine ⟨?_, by omega, by omega, by omega⟩
            rw [← g1, hz']
            conv => rhs; unfold Flt.dbl
            rw [if_pos hc']
          have HM : Hid (4609434218613702656 - z' < 4609434218613702656 - z) := by show 4609434218613702656 - z' < 4609434218613702656 - z; omega
          clear HH hc hc' hz'
          go_wp2
          go_roundw
          case rel => exact ⟨f', z', d - 1, rfl, rfl, HN, by omega, by omega, drewN_ex HW2.out _⟩
          case measure => exact HM.out
        | false =>
          have ht : (FloatKind.f64.format.order z 4604930618986332160 == some .lt) = false := by rw [Flt.lt_small z _ (by have := HH.out.2.1; omega) (by decide)]; exact hc
          have hc' := of_decide_eq_false hc
          have HZ : Hid (Flt.logE x0 = (z, d) ∧ z < 4609434218613702656) := by
            obtain ⟨g1, g2, g3, g4⟩ := HH.out
            refine ⟨?_, g2⟩
            unfold Flt.logE
            rw [HX.out.1, ← g1, Flt.dbl_stop _ _ _ hc']
          have HS : Hid (∀ a b c, Flt.Fl .f64 (Flt.logS z) (Flt.fB .quo .f64 (Flt.fB .sub .f64 z 4607182418800017408 a) (Flt.fB .add .f64 z 4607182418800017408 b) c)) := fun a b c =>
            fop_Fl (fop_Fl (Fl_small z (by have := HZ.out.2; omega)) (Fl_small _ (by decide)) a) (fop_Fl (Fl_small z (by have := HZ.out.2; omega)) (Fl_small _ (by decide)) b) c
          clear HH hc hc'
          go_wp2_with go_in
          go_loopw [7, 8] (fun qs ks wr => ∃ (j : Nat) (r : Nat), j ≤ 13 ∧ ks = .int .i64 (25 - 2 * (j : Int)) ∧ qs = .float .f64 r ∧ Hid (Flt.Fl .f64 (Flt.logQ (Flt.fop .mul .f64 (Flt.logS z) (Flt.logS z)) j) r) ∧ Hid (∃ m, wr = w.drewN m)) (fun _ ks _ => (intOf ks + 2).toNat)
          case atStart => exact ⟨0, 0, by omega, rfl, rfl, ⟨show Flt.cls .f64 0 = some 0 by decide, by decide⟩, by repeat (first | exact HW2.out | refine drewN_ex ?_ _)⟩
          case round =>
            obtain ⟨j, r, hj, rfl, rfl, HQ, HW3⟩ := hrel
            by_cases hlt : j < 13
            · go_wp2_with go_in
              go_roundw
              case rel => exact ⟨j + 1, _, by omega, by go_num, rfl, fop_Fl (fop_Fl (Fl_small 4607182418800017408 (by decide)) (Fl_int _) _) (fop_Fl (fop_Fl (HS.out _ _ _) (HS.out _ _ _) _) HQ.out _) _, by repeat (first | exact HW3.out | refine drewN_ex ?_ _)⟩
              case measure => simp [intOf]; omega
            · obtain rfl : j = 13 := by omega
              go_wp2_with go_in
              go_ret
              refine ⟨_, rfl, ?_, by repeat (first | exact HW3.out | refine drewN_ex ?_ _)⟩
              have hz' := HZ.out.1
              unfold Flt.logV
              rw [hz']
              exact fop_Fl (fop_Fl (Fl_small 4611686018427387904 (by decide)) (fop_Fl (HS.out _ _ _) HQ.out _) _) (fop_Fl (Fl_int _) (Fl_small 4604418534313441775 (by decide)) _) _

end Go.Proofs.Ytdomcjiiilbajaa
