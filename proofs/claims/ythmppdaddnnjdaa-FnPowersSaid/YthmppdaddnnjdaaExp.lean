/- The contract of the program's exponential where no step is a NaN. -/
import Derived.Test.YthmppdaddnnjdaaExpPlain
import Derived.Test.YthmppdaddnnjdaaLogLaw
namespace Go.Proofs.Ythmppdaddnnjdaa
open Go.RowKit

theorem narO_cB {b r : Nat} (h : narO b = some r) (w : World) : Flt.cB .f64 .f32 b w = r := by
  unfold narO at h
  unfold Flt.cB
  cases hd : FloatKind.f64.decode b with
  | nan s t => rw [hd] at h; cases h
  | infinity s => rw [hd] at h; cases h
  | number s m e =>
    rw [hd] at h
    simp only at h ⊢
    split at h
    · cases h
    · rename_i hn
      rw [if_neg hn]
      exact Option.some.inj h

theorem mul_any (a b r : Nat) (w : World) (h : floatBits .mul .f64 a b = some r) : Calls Try.prog 40 #[.float .f64 a, .float .f64 b] w fun e w' => e = .returned (.float .f64 r) ∧ ∃ m, w' = w.drewN m := by
  have h1 : ∀ w, Flt.fB .mul .f64 a b w = r := fun w => fB_some h w
  clear h
  go_enter Try.func40, Try.ntmps40
  go_wp2
  go_ret
  exact ⟨rfl, _, rfl⟩

theorem eStep_parts {t p k q : Nat} (h : eStepO t p k = some q) : ∃ a b, floatBits .mul .f64 t p = some a ∧ floatBits .quo .f64 a (floatOfInt .f64 (k : Int)) = some b ∧ floatBits .add .f64 4607182418800017408 b = some q := by
  unfold eStepO at h
  obtain ⟨a, ha, h⟩ := Option.bind_eq_some_iff.1 h
  obtain ⟨b, hb, h⟩ := Option.bind_eq_some_iff.1 h
  exact ⟨a, b, ha, hb, h⟩

theorem ePO_pos {t p k r : Nat} (h1 : 1 ≤ k) (h : ePO t p k = some r) : ∃ q, eStepO t p k = some q ∧ ePO t q (k - 1) = some r := by
  obtain ⟨j, rfl⟩ : ∃ j, k = j + 1 := ⟨k - 1, by omega⟩
  obtain ⟨q, hq, h⟩ := Option.bind_eq_some_iff.1 (show (eStepO t p (j + 1)).bind (fun q => ePO t q j) = some r from h)
  exact ⟨q, hq, h⟩
theorem eSO_pos {p n r : Nat} (h1 : n < 8) (h : eSO p (8 - n) = some r) : ∃ q, floatBits .mul .f64 p p = some q ∧ eSO q (8 - (n + 1)) = some r := by
  obtain ⟨j, hj⟩ : ∃ j, 8 - n = j + 1 := ⟨7 - n, by omega⟩
  rw [hj] at h
  rw [show 8 - (n + 1) = j by omega]
  obtain ⟨q, hq, h⟩ := Option.bind_eq_some_iff.1 (show (floatBits .mul .f64 p p).bind (fun q => eSO q j) = some r from h)
  exact ⟨q, hq, h⟩

set_option maxHeartbeats 4000000 in
theorem exp_any (z r : Nat) (w : World) (h : expO z = some r) (hr : z % 2147483648 < 2139095040) (h1 : (FloatKind.f32.format.order z 1128792064 == some .gt) = false) (h2 : (FloatKind.f32.format.order z 3276275712 == some .lt) = false) :
    Calls Try.prog 21 #[.float .f32 z] w fun e w' => e = .returned (.float .f32 r) ∧ ∃ m, w' = w.drewN m := by
  unfold expO at h
  obtain ⟨t, ht, h⟩ := Option.bind_eq_some_iff.1 h
  obtain ⟨p0, hp, h⟩ := Option.bind_eq_some_iff.1 h
  obtain ⟨q0, hq, hn⟩ := Option.bind_eq_some_iff.1 h
  have hw : ∀ w, Flt.cB .f32 .f64 z w = Flt.W z := wide_eq z (by rw [rung32, inf32]; omega)
  have ht1 : ∀ w, Flt.fB .quo .f64 (Flt.W z) 4643211215818981376 w = t := fun w => fB_some ht w
  have HP : Hid (ePO t 4607182418800017408 12 = some p0) := hp
  have HQ : Hid (eSO p0 8 = some q0) := hq
  have HN : Hid (∀ w, Flt.cB .f64 .f32 q0 w = r) := narO_cB hn
  generalize Flt.W z = wz at *
  clear h ht hp hq hn hr
  go_enter Try.func21, Try.ntmps21
  go_wp2_with fail
  have HM : Hid (∃ m, w.drewN (Flt.cN .f32 .f64 z + Flt.fN .quo .f64 wz 4643211215818981376) = w.drewN m) := ⟨_, rfl⟩
  clear hw ht1
  generalize w.drewN (Flt.cN .f32 .f64 z + Flt.fN .quo .f64 wz 4643211215818981376) = w0 at *
  go_loopw [4, 5] (fun ps ks wr => ∃ k p : Nat, k ≤ 12 ∧ ks = .int .i64 (k : Int) ∧ ps = .float .f64 p ∧ Hid (ePO t p k = some p0) ∧ Hid (∃ m, wr = w.drewN m)) (fun _ ks _ => (intOf ks).toNat)
  case atStart => exact ⟨12, _, by omega, rfl, rfl, HP, HM⟩
  case round =>
    clear HP HM
    obtain ⟨k, p, hk, rfl, rfl, HP, HM⟩ := hrel
    by_cases hk1 : 1 ≤ k
    · obtain ⟨q, hs, hr⟩ := ePO_pos hk1 HP.out
      obtain ⟨a, b, ha, hb, hc⟩ := eStep_parts hs
      have HA : Hid (∀ w, Calls Try.prog 40 #[.float .f64 t, .float .f64 p] w fun e w' => e = .returned (.float .f64 a) ∧ ∃ m, w' = w.drewN m) := fun w => mul_any t p a w ha
      have f1 : ∀ w, Flt.fB .quo .f64 a (floatOfInt .f64 (k : Int)) w = b := fun w => fB_some hb w
      have f2 : ∀ w, Flt.fB .add .f64 4607182418800017408 b w = q := fun w => fB_some hc w
      have HR : Hid (ePO t q (k - 1) = some p0) := hr
      clear ha hb hc hs hr HP
      go_wp2_with (go_at_call 40; refine (HA.out _).mono ?_; rintro e w' ⟨rfl, m, rfl⟩)
      go_roundw
      case rel => exact ⟨k - 1, q, by omega, by go_num, rfl, HR, by repeat (first | exact HM.out | refine drewN_ex ?_ _)⟩
      case measure => simp [intOf]; omega
    · have hpp : p = p0 := by
        have hk0 : k = 0 := by omega
        have hh := HP.out
        rw [hk0] at hh
        exact Option.some.inj hh
      subst hpp
      clear HP
      go_wp2_with fail
      go_loopw [4, 28] (fun ps ns wr => ∃ n q : Nat, n ≤ 8 ∧ ns = .int .i64 (n : Int) ∧ ps = .float .f64 q ∧ Hid (eSO q (8 - n) = some q0) ∧ Hid (∃ m, wr = w.drewN m)) (fun _ ns _ => 8 - (intOf ns).toNat)
      case atStart => exact ⟨0, p, by omega, rfl, rfl, HQ, HM⟩
      case round =>
        clear HQ HM
        obtain ⟨n, q, hn, rfl, rfl, HQ, HM⟩ := hrel
        by_cases hn8 : n < 8
        · obtain ⟨q', hm, hr⟩ := eSO_pos hn8 HQ.out
          have HA : Hid (∀ w, Calls Try.prog 40 #[.float .f64 q, .float .f64 q] w fun e w' => e = .returned (.float .f64 q') ∧ ∃ m, w' = w.drewN m) := fun w => mul_any q q q' w hm
          have HR : Hid (eSO q' (8 - (n + 1)) = some q0) := hr
          clear hm hr HQ
          go_wp2_with (go_at_call 40; refine (HA.out _).mono ?_; rintro e w' ⟨rfl, m, rfl⟩)
          go_roundw
          case rel => exact ⟨n + 1, q', by omega, by go_num, rfl, HR, by repeat (first | exact HM.out | refine drewN_ex ?_ _)⟩
          case measure => simp [intOf]; omega
        · have hqq : q = q0 := by
            have hn0 : 8 - n = 0 := by omega
            have hh := HQ.out
            rw [hn0] at hh
            exact Option.some.inj hh
          subst hqq
          have hnr := HN.out
          clear HQ
          go_wp2_with fail
          go_ret
          exact ⟨rfl, by repeat (first | exact HM.out | refine drewN_ex ?_ _)⟩

end Go.Proofs.Ythmppdaddnnjdaa
