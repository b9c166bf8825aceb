/- The walk of the law of powers and logarithms. -/
import Derived.Test.YthmppdaddnnjdaaB10
import Derived.Test.YthmppdaddnnjdaaExpPair0
import Derived.Test.YthmppdaddnnjdaaExpPair1
import Derived.Test.YthmppdaddnnjdaaExpPair2
import Derived.Test.YthmppdaddnnjdaaExpPair3
import Derived.Test.YthmppdaddnnjdaaExpPair4
import Derived.WalkSmall
namespace Go.Proofs.Ythmppdaddnnjdaa
open Go.RowKit Opn

theorem okP_all (c d : Nat) (hc : c < 65) (hd : d < 65) : okP c d = true := by
  by_cases h0 : c < 13
  · exact okPs_0 c d (by omega) h0 hd
  by_cases h1 : c < 26
  · exact okPs_1 c d (by omega) h1 hd
  by_cases h2 : c < 39
  · exact okPs_2 c d (by omega) h2 hd
  by_cases h3 : c < 52
  · exact okPs_3 c d (by omega) h3 hd
  exact okPs_4 c d (by omega) (by omega) hd

/-- z is a word whose exponential is a -/
structure EF (z a : Nat) : Prop where
  ex : expO z = some a
  fin : z % 2147483648 < 2139095040
  lt : z < 4294967296
  t1 : (FloatKind.f32.format.order z 1128792064 == some .gt) = false
  t2 : (FloatKind.f32.format.order z 3276275712 == some .lt) = false
  afin : a < 2139095040
  anz : a ≠ 0

theorem ef_of (m : Nat) (h : m < 129) : zO m = some (zt m) ∧ EF (zt m) (xt m) := by
  have hz := okZ_all m h
  unfold okZ at hz
  simp only [Bool.and_eq_true, decide_eq_true_eq, Bool.not_eq_true'] at hz
  obtain ⟨⟨⟨⟨⟨⟨⟨z1, z2⟩, z3⟩, z4⟩, z5⟩, z6⟩, z7⟩, z8⟩ := hz
  exact ⟨z1, z2, z3, z4, z7, z8, z5, z6⟩

theorem EF.call {z a : Nat} (h : EF z a) (w : World) : Calls Try.prog 21 #[.float .f32 z] w fun e w' => e = .returned (.float .f32 a) ∧ ∃ m, w' = w.drewN m := exp_any z a w h.ex h.fin h.t1 h.t2

theorem wide_fin (x : Nat) (h : x % 2147483648 < 2139095040) (w : World) : Flt.cB .f32 .f64 x w = Flt.W x := wide_eq x (by rw [rung32, inf32]; omega) w

theorem log_call (x l : Nat) (w : World) (hx : x < 4294967296) (h : lgF x = some l) : Calls Try.prog 23 #[.float .f32 x] w fun e w' => e = .returned (.float .f32 l) ∧ ∃ m, w' = w.drewN m :=
  (lg_impl x w hx).mono fun e w' ⟨r, he, hr, hm⟩ => by
    rw [h] at hr
    have := (Flt.cls_some hr.cls).1
    exact ⟨by rw [he, this], hm⟩

/-- all that the walk wants of one pair -/
structure PF (c d : Int) (x y s a b e l gl p g q : Nat) : Prop where
  fx : ∀ w, Flt.fB .quo .f32 (floatOfInt .f32 (c - 32)) 1090519040 w = x
  fy : ∀ w, Flt.fB .quo .f32 (floatOfInt .f32 (d - 32)) 1090519040 w = y
  fs : ∀ w, Flt.fB .add .f32 x y w = s
  ea : EF x a
  eb : EF y b
  ee : EF s e
  lg : lgF a = some l
  lfin : l % 2147483648 < 2139095040
  lgap : gapO (Flt.W l) (Flt.W x) = some gl
  llt : (FloatKind.f64.format.order gl 4562254508917369340 == some .lt) = true
  mul : ∀ w, Flt.fB .mul .f64 (Flt.W a) (Flt.W b) w = p
  gap : gapO p (Flt.W e) = some g
  few : ∀ w, Flt.fB .mul .f64 4562254508917369340 (Flt.W e) w = q
  glt : (FloatKind.f64.format.order g q == some .lt) = true
  pos : (FloatKind.f32.format.order a 0 == some .gt) = true

theorem pf_of (c d : Nat) (hc : c < 65) (hd : d < 65) : ∃ x y s a b e l gl p g q, PF c d x y s a b e l gl p g q := by
  obtain ⟨zx, ea⟩ := ef_of (c + 32) (by omega)
  obtain ⟨zy, eb⟩ := ef_of (d + 32) (by omega)
  obtain ⟨-, ee⟩ := ef_of (c + d) (by omega)
  have hp := okP_all c d hc hd
  unfold okP at hp
  simp only [Bool.and_eq_true, decide_eq_true_eq, Option.any_eq_true] at hp
  obtain ⟨hs, p, hmul, g, hgap, q, hq, hlt⟩ := hp
  have hc' := okC_all c hc
  unfold okC at hc'
  simp only [Bool.and_eq_true, decide_eq_true_eq, Option.any_eq_true] at hc'
  obtain ⟨⟨⟨hl, hlf⟩, gl, hgl, hll⟩, hpos⟩ := hc'
  refine ⟨_, _, _, _, _, _, _, gl, p, g, q, fun w => ?_, fun w => ?_, fun w => fB_some hs w, ea, eb, ee, hl, hlf, hgl, hll, fun w => fB_some hmul w, hgap, fun w => fB_some hq w, hlt, hpos⟩
  · have e1 : (((c + 32 : Nat) : Int) - 64) = (c : Int) - 32 := by omega
    unfold zO at zx; rw [e1] at zx
    exact fB_some zx w
  · have e1 : (((d + 32 : Nat) : Int) - 64) = (d : Int) - 32 := by omega
    unfold zO at zy; rw [e1] at zy
    exact fB_some zy w

set_option maxRecDepth 100000 in
set_option maxHeartbeats 4000000 in
theorem powers_walk (v : Value) (n : Nat) (zs : List Int) (v' : Value) (n' : Nat) (zs' : List Int) (w : World) (h : IRow .u8 w v n zs) (h' : IRow .u8 w v' n' zs') : Calls Try.prog 10 #[v, v'] w fun e w' => e = .returned (.bool true) ∧ Below w.heap.size w w' := by
  obtain ⟨ao, cap, hv⟩ := IRow.formB h
  obtain ⟨ao', cap', hv'⟩ := IRow.formB h'
  have HA : Hid (Calls Try.prog 27 #[v, .int .i64 0, .int .i64 65] w (AtR 65 w)) := at_any v n zs w 0 65 h (by omega) (by omega) (by omega)
  have HA' : Hid (∀ m, Calls Try.prog 27 #[v', .int .i64 0, .int .i64 65] (w.drewN m) (AtR 65 (w.drewN m))) := fun m => at_any v' n' zs' (w.drewN m) 0 65 h' (by omega) (by omega) (by omega)
  by_cases hlong : 1048576 < n ∨ 1048576 < n'
  · have HL : Hid (Calls Try.prog 26 #[v, v'] w fun e w' => e = .returned (.bool true) ∧ w' = w) := by have := long_any v v' n n' zs zs' w h h'; rwa [decide_eq_true hlong] at this
    subst hv hv'
    clear h h' hlong HA HA'
    go_enter Try.func10, Try.ntmps10
    go_wp2_with (go_at_call 26; refine Calls.mono HL.out ?_; rintro e w' ⟨rfl, rfl⟩)
    go_ret
    exact ⟨rfl, Below.refl _ _⟩
  · have HL : Hid (Calls Try.prog 26 #[v, v'] w fun e w' => e = .returned (.bool false) ∧ w' = w) := by have := long_any v v' n n' zs zs' w h h'; rwa [decide_eq_false hlong] at this
    subst hv hv'
    clear h h' hlong
    go_enter Try.func10, Try.ntmps10
    go_wp2_with (go_at_call 26; refine Calls.mono HL.out ?_; rintro e w' ⟨rfl, rfl⟩)
    refine Calls.mono HA.out ?_
    rintro e w1 ⟨c, hc, rfl, rfl⟩
    go_wp2_with fail
    refine Calls.mono (HA'.out _) ?_
    rintro e w2 ⟨d, hd, rfl, rfl⟩
    obtain ⟨x, y, s, a, b, e0, l, gl, p, g, q, pf⟩ := pf_of c d hc hd
    have HP : Hid (PF c d x y s a b e0 l gl p g q) := pf
    have HB : Hid (∃ m, w1.drewN (Flt.fN .quo .f32 (floatOfInt .f32 ((c : Int) - 32)) 1090519040) = w1.drewN m) := ⟨_, rfl⟩
    have f1 := HP.out.fx
    have f2 := HP.out.fy
    have f3 := HP.out.fs
    have f4 : ∀ w, Flt.cB .f32 .f64 x w = Flt.W x := wide_fin x HP.out.ea.fin
    have f5 : ∀ w, Flt.cB .f32 .f64 l w = Flt.W l := wide_fin l HP.out.lfin
    have f6 : ∀ w, Flt.cB .f32 .f64 a w = Flt.W a := wide_fin a (by have := HP.out.ea.afin; omega)
    have f7 : ∀ w, Flt.cB .f32 .f64 b w = Flt.W b := wide_fin b (by have := HP.out.eb.afin; omega)
    have f8 : ∀ w, Flt.cB .f32 .f64 e0 w = Flt.W e0 := wide_fin e0 (by have := HP.out.ee.afin; omega)
    have f9 := HP.out.mul
    have f10 := HP.out.few
    have t1 := HP.out.llt
    have t2 := HP.out.glt
    have t3 := HP.out.pos
    have HWx : Hid (∃ X, X = Flt.W x) := ⟨_, rfl⟩
    have HLG : Hid (∀ w, Calls Try.prog 28 #[.float .f64 (Flt.W l), .float .f64 (Flt.W x)] w fun e w' => e = .returned (.float .f64 gl) ∧ ∃ m, w' = w.drewN m) := fun w => gap_any _ _ _ w HP.out.lgap
    have HPG : Hid (∀ w, Calls Try.prog 28 #[.float .f64 p, .float .f64 (Flt.W e0)] w fun e w' => e = .returned (.float .f64 g) ∧ ∃ m, w' = w.drewN m) := fun w => gap_any _ _ _ w HP.out.gap
    have HE0 : Hid (∀ w, Calls Try.prog 21 #[.float .f32 0] w fun e w' => e = .returned (.float .f32 1065353216) ∧ ∃ m, w' = w.drewN m) := fun w => exp_any 0 _ w (by decide +kernel) (by omega) (by decide +kernel) (by decide +kernel)
    have HL1 : Hid (∀ w, Calls Try.prog 23 #[.float .f32 1065353216] w fun e w' => e = .returned (.float .f32 0) ∧ ∃ m, w' = w.drewN m) := fun w => log_call _ _ w (by omega) (by decide +kernel)
    have t4 : (FloatKind.f32.format.order 1065353216 1065353216 == some .eq) = true := by decide +kernel
    have t5 : (FloatKind.f32.format.order 0 0 == some .eq) = true := by decide +kernel
    generalize Flt.W x = X at *
    generalize Flt.W l = L at *
    generalize Flt.W a = A at *
    generalize Flt.W b = B at *
    generalize Flt.W e0 = E at *
    clear HWx pf HA HA' HL
    go_wp2_with fail
    refine (HP.out.ea.call _).mono ?_
    rintro e w3 ⟨rfl, m3, rfl⟩
    go_wp2_with fail
    refine (HP.out.eb.call _).mono ?_
    rintro e w4 ⟨rfl, m4, rfl⟩
    go_wp2_with fail
    refine (HP.out.ee.call _).mono ?_
    rintro e w5 ⟨rfl, m5, rfl⟩
    go_wp2_with fail
    refine (log_call a l _ (by have := HP.out.ea.afin; omega) HP.out.lg).mono ?_
    rintro e w6 ⟨rfl, m6, rfl⟩
    go_wp2_with fail
    refine (HLG.out _).mono ?_
    rintro e w7 ⟨rfl, m7, rfl⟩
    go_wp2_with fail
    refine (HPG.out _).mono ?_
    rintro e w8 ⟨rfl, m8, rfl⟩
    go_wp2_with fail
    refine (HE0.out _).mono ?_
    rintro e w9 ⟨rfl, m9, rfl⟩
    go_wp2_with fail
    refine (HL1.out _).mono ?_
    rintro e w10 ⟨rfl, m10, rfl⟩
    go_wp2_with fail
    go_ret
    exact ⟨rfl, by repeat (first | exact Below.refl _ _ | refine below_drewN ?_ _)⟩

end Go.Proofs.Ythmppdaddnnjdaa
