/- Contracts of the functions on phasors that the law of circles asks. -/
import Derived.Test.YtdomcjiiilbajaaB10C
import Derived.Test.YtdomcjiiilbajaaCirPlain
namespace Go.Proofs.Ytdomcjiiilbajaa
open Go.RowKit

theorem angleOf_any (re im a : Nat) (w : World) (h : angF im re = some a) : Calls Try.prog 17 #[.complex .f32 re im] w fun e w' => e = .returned (.float .f32 a) ∧ ∃ m, w' = w.drewN m := by
  have HA : Hid (∀ w, Calls Try.prog 11 #[.float .f32 im, .float .f32 re] w fun e w' => e = .returned (.float .f32 a) ∧ ∃ m, w' = w.drewN m) := fun w => (ang_impl im re w).mono fun e w' ⟨r, he, hr, hm⟩ => by
    rw [h] at hr
    have := (Flt.cls_some hr.cls).1
    exact ⟨by rw [he, this], hm⟩
  clear h
  go_enter Try.func17, Try.ntmps17
  go_wp2_with fail
  refine (HA.out _).mono ?_
  rintro e w' ⟨rfl, m, rfl⟩
  go_wp2_with fail
  go_ret
  exact ⟨rfl, _, rfl⟩

theorem power_any (re im p q s : Nat) (w : World) (f1 : ∀ w, Flt.cB .f32 .f64 re w = Flt.W re) (f2 : ∀ w, Flt.cB .f32 .f64 im w = Flt.W im) (h1 : floatBits .mul .f64 (Flt.W re) (Flt.W re) = some p) (h2 : floatBits .mul .f64 (Flt.W im) (Flt.W im) = some q) (h3 : floatBits .add .f64 p q = some s) : Calls Try.prog 36 #[.complex .f32 re im] w fun e w' => e = .returned (.float .f64 s) ∧ ∃ m, w' = w.drewN m := by
  have M1 : Hid (∀ w, Calls Try.prog 32 #[.float .f64 (Flt.W re), .float .f64 (Flt.W re)] w fun e w' => e = .returned (.float .f64 p) ∧ ∃ m, w' = w.drewN m) := fun w => mul_any _ _ _ w h1
  have M2 : Hid (∀ w, Calls Try.prog 32 #[.float .f64 (Flt.W im), .float .f64 (Flt.W im)] w fun e w' => e = .returned (.float .f64 q) ∧ ∃ m, w' = w.drewN m) := fun w => mul_any _ _ _ w h2
  have f3 : ∀ w, Flt.fB .add .f64 p q w = s := fun w => fB_some h3 w
  clear h1 h2 h3
  generalize Flt.W re = A at *
  generalize Flt.W im = B at *
  go_enter Try.func36, Try.ntmps36
  go_wp2_with fail
  refine (M1.out _).mono ?_
  rintro e w' ⟨rfl, m, rfl⟩
  go_wp2_with fail
  refine (M2.out _).mono ?_
  rintro e w' ⟨rfl, m, rfl⟩
  go_wp2_with fail
  go_ret
  exact ⟨rfl, by repeat (first | exact ⟨0, rfl⟩ | exact ⟨_, rfl⟩)⟩

theorem powerOf_any (re im r : Nat) (w : World) (f1 : ∀ w, Flt.cB .f32 .f64 re w = Flt.W re) (f2 : ∀ w, Flt.cB .f32 .f64 im w = Flt.W im) (h : powO re im = some r) : Calls Try.prog 19 #[.complex .f32 re im] w fun e w' => e = .returned (.float .f32 r) ∧ ∃ m, w' = w.drewN m := by
  unfold powO at h
  obtain ⟨p, hp, h⟩ := Option.bind_eq_some_iff.1 h
  obtain ⟨q, hq, h⟩ := Option.bind_eq_some_iff.1 h
  obtain ⟨s, hs, h⟩ := Option.bind_eq_some_iff.1 h
  have HP : Hid (∀ w, Calls Try.prog 36 #[.complex .f32 re im] w fun e w' => e = .returned (.float .f64 s) ∧ ∃ m, w' = w.drewN m) := fun w => power_any re im p q s w f1 f2 hp hq hs
  have hn : ∀ w, Flt.cB .f64 .f32 s w = r := narO_cB h
  clear f1 f2 hp hq hs h
  go_enter Try.func19, Try.ntmps19
  go_wp2_with fail
  refine (HP.out _).mono ?_
  rintro e w' ⟨rfl, m, rfl⟩
  go_wp2_with fail
  go_ret
  exact ⟨rfl, by repeat (first | exact ⟨0, rfl⟩ | exact ⟨_, rfl⟩)⟩

/-- the parts of a product in 64 bits -/
structure LP (a b c d x y z u s t : Nat) : Prop where
  ac : floatBits .mul .f64 a c = some x
  bd : floatBits .mul .f64 b d = some y
  ad : floatBits .mul .f64 a d = some z
  bc : floatBits .mul .f64 b c = some u
  re : floatBits .sub .f64 x y = some s
  im : floatBits .add .f64 z u = some t

theorem longProduct_any (re im re' im' x y z u s t : Nat) (w : World) (f1 : ∀ w, Flt.cB .f32 .f64 re w = Flt.W re) (f2 : ∀ w, Flt.cB .f32 .f64 im w = Flt.W im) (f3 : ∀ w, Flt.cB .f32 .f64 re' w = Flt.W re') (f4 : ∀ w, Flt.cB .f32 .f64 im' w = Flt.W im') (h : LP (Flt.W re) (Flt.W im) (Flt.W re') (Flt.W im') x y z u s t) : Calls Try.prog 37 #[.complex .f32 re im, .complex .f32 re' im'] w fun e w' => e = .returned (.tuple #[.float .f64 s, .float .f64 t]) ∧ ∃ m, w' = w.drewN m := by
  have M1 : Hid (∀ w, Calls Try.prog 32 #[.float .f64 (Flt.W re), .float .f64 (Flt.W re')] w fun e w' => e = .returned (.float .f64 x) ∧ ∃ m, w' = w.drewN m) := fun w => mul_any _ _ _ w h.ac
  have M2 : Hid (∀ w, Calls Try.prog 32 #[.float .f64 (Flt.W im), .float .f64 (Flt.W im')] w fun e w' => e = .returned (.float .f64 y) ∧ ∃ m, w' = w.drewN m) := fun w => mul_any _ _ _ w h.bd
  have M3 : Hid (∀ w, Calls Try.prog 32 #[.float .f64 (Flt.W re), .float .f64 (Flt.W im')] w fun e w' => e = .returned (.float .f64 z) ∧ ∃ m, w' = w.drewN m) := fun w => mul_any _ _ _ w h.ad
  have M4 : Hid (∀ w, Calls Try.prog 32 #[.float .f64 (Flt.W im), .float .f64 (Flt.W re')] w fun e w' => e = .returned (.float .f64 u) ∧ ∃ m, w' = w.drewN m) := fun w => mul_any _ _ _ w h.bc
  have g1 : ∀ w, Flt.fB .sub .f64 x y w = s := fun w => fB_some h.re w
  have g2 : ∀ w, Flt.fB .add .f64 z u w = t := fun w => fB_some h.im w
  clear h
  generalize Flt.W re = A at *
  generalize Flt.W im = B at *
  generalize Flt.W re' = C at *
  generalize Flt.W im' = D at *
  go_enter Try.func37, Try.ntmps37
  go_wp2_with fail
  refine (M1.out _).mono ?_
  rintro e w' ⟨rfl, m, rfl⟩
  go_wp2_with fail
  refine (M2.out _).mono ?_
  rintro e w' ⟨rfl, m, rfl⟩
  go_wp2_with fail
  refine (M3.out _).mono ?_
  rintro e w' ⟨rfl, m, rfl⟩
  go_wp2_with fail
  refine (M4.out _).mono ?_
  rintro e w' ⟨rfl, m, rfl⟩
  go_wp2_with fail
  go_ret2
  exact ⟨rfl, by repeat (first | exact ⟨0, rfl⟩ | exact ⟨_, rfl⟩)⟩

theorem mulComplex_any (re im re' im' a b : Nat) (w : World) (f1 : ∀ w, Flt.cB .f32 .f64 re w = Flt.W re) (f2 : ∀ w, Flt.cB .f32 .f64 im w = Flt.W im) (f3 : ∀ w, Flt.cB .f32 .f64 re' w = Flt.W re') (f4 : ∀ w, Flt.cB .f32 .f64 im' w = Flt.W im') (h1 : mulRe re im re' im' = some a) (h2 : mulIm re im re' im' = some b) : Calls Try.prog 21 #[.complex .f32 re im, .complex .f32 re' im'] w fun e w' => e = .returned (.complex .f32 a b) ∧ ∃ m, w' = w.drewN m := by
  unfold mulRe at h1
  unfold mulIm at h2
  obtain ⟨x, hx, h1⟩ := Option.bind_eq_some_iff.1 h1
  obtain ⟨y, hy, h1⟩ := Option.bind_eq_some_iff.1 h1
  obtain ⟨s, hs, h1⟩ := Option.bind_eq_some_iff.1 h1
  obtain ⟨z, hz, h2⟩ := Option.bind_eq_some_iff.1 h2
  obtain ⟨u, hu, h2⟩ := Option.bind_eq_some_iff.1 h2
  obtain ⟨t, ht, h2⟩ := Option.bind_eq_some_iff.1 h2
  have HP : Hid (∀ w, Calls Try.prog 37 #[.complex .f32 re im, .complex .f32 re' im'] w fun e w' => e = .returned (.tuple #[.float .f64 s, .float .f64 t]) ∧ ∃ m, w' = w.drewN m) := fun w => longProduct_any re im re' im' x y z u s t w f1 f2 f3 f4 ⟨hx, hy, hz, hu, hs, ht⟩
  have n1 : ∀ w, Flt.cB .f64 .f32 s w = a := narO_cB h1
  have n2 : ∀ w, Flt.cB .f64 .f32 t w = b := narO_cB h2
  clear f1 f2 f3 f4 hx hy hs hz hu ht h1 h2
  go_enter Try.func21, Try.ntmps21
  go_wp2_with fail
  refine (HP.out _).mono ?_
  rintro e w' ⟨rfl, m, rfl⟩
  go_wp2_with fail
  go_ret
  exact ⟨rfl, by repeat (first | exact ⟨0, rfl⟩ | exact ⟨_, rfl⟩)⟩

theorem near_any (a b a' b' g g' : Nat) (w : World) (f1 : ∀ w, Flt.cB .f32 .f64 a w = Flt.W a) (f2 : ∀ w, Flt.cB .f32 .f64 b w = Flt.W b) (f3 : ∀ w, Flt.cB .f32 .f64 a' w = Flt.W a') (f4 : ∀ w, Flt.cB .f32 .f64 b' w = Flt.W b')
    (h1 : gapO (Flt.W a) (Flt.W a') = some g) (h2 : gapO (Flt.W b) (Flt.W b') = some g') (l1 : leB g 4547007122018943789 = true) (l2 : leB g' 4547007122018943789 = true) : Calls Try.prog 20 #[.complex .f32 a b, .complex .f32 a' b', .float .f64 4547007122018943789] w fun e w' => e = .returned (.bool true) ∧ ∃ m, w' = w.drewN m := by
  have M1 : Hid (∀ w, Calls Try.prog 18 #[.float .f64 (Flt.W a), .float .f64 (Flt.W a')] w fun e w' => e = .returned (.float .f64 g) ∧ ∃ m, w' = w.drewN m) := fun w => gap_any _ _ _ w h1
  have M2 : Hid (∀ w, Calls Try.prog 18 #[.float .f64 (Flt.W b), .float .f64 (Flt.W b')] w fun e w' => e = .returned (.float .f64 g') ∧ ∃ m, w' = w.drewN m) := fun w => gap_any _ _ _ w h2
  unfold leB at l1 l2
  clear h1 h2
  generalize Flt.W a = A at *
  generalize Flt.W b = B at *
  generalize Flt.W a' = A' at *
  generalize Flt.W b' = B' at *
  go_enter Try.func20, Try.ntmps20
  go_wp2_with fail
  refine (M1.out _).mono ?_
  rintro e w' ⟨rfl, m, rfl⟩
  go_wp2_with fail
  refine (M2.out _).mono ?_
  rintro e w' ⟨rfl, m, rfl⟩
  go_wp2_with fail
  go_ret
  exact ⟨rfl, by repeat (first | exact ⟨0, rfl⟩ | exact ⟨_, rfl⟩)⟩

end Go.Proofs.Ytdomcjiiilbajaa
