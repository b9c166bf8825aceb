/- What the law of circles asks of its numbers, gathered. -/
import Derived.Test.YtdomcjiiilbajaaCirC
import Derived.Test.YtdomcjiiilbajaaCirA
import Derived.Test.YtdomcjiiilbajaaCirM0
import Derived.Test.YtdomcjiiilbajaaCirM1
import Derived.Test.YtdomcjiiilbajaaCirM2
import Derived.Test.YtdomcjiiilbajaaCirM3
import Derived.Test.YtdomcjiiilbajaaCirY0
import Derived.Test.YtdomcjiiilbajaaCirY1
import Derived.Test.YtdomcjiiilbajaaCirY2
import Derived.Test.YtdomcjiiilbajaaCirY3
import Derived.Test.YtdomcjiiilbajaaTenP
namespace Go.Proofs.Ytdomcjiiilbajaa
open Go.RowKit

theorem okM_at (i j : Nat) (hi : i < 64) (hj : j < 64) : okM i j = true := by
  by_cases h0 : i < 16
  · exact okM_all0 i j (by omega) h0 hj
  by_cases h1 : i < 32
  · exact okM_all1 i j (by omega) h1 hj
  by_cases h2 : i < 48
  · exact okM_all2 i j (by omega) h2 hj
  exact okM_all3 i j (by omega) hi hj

theorem finW_wide {x : Nat} (h : finW x = true) (w : World) : Flt.cB .f32 .f64 x w = Flt.W x := by
  unfold finW at h
  rw [Bool.and_eq_true, decide_eq_true_iff, decide_eq_true_iff] at h
  exact wide_eq x (by rw [rung32, inf32]; omega) w


theorem okY_at (k : Nat) (h : k < 511) : okY k = true := by
  by_cases h0 : k < 128
  · exact okY_all0 k (by omega) h0
  by_cases h1 : k < 256
  · exact okY_all128 k (by omega) h1
  by_cases h2 : k < 384
  · exact okY_all256 k (by omega) h2
  exact okY_all384 k (by omega) h

/-- a phasor of k - 256 64ths of turns -/
structure PhF (k : Nat) (y re im : Nat) : Prop where
  quo : ∀ w, Flt.fB .quo .f64 (floatOfInt .f64 ((k : Int) - 256)) 4634204016564240384 w = y
  call : ∀ w, Calls Try.prog 13 #[.float .f64 y] w fun e w' => e = .returned (.complex .f32 re im) ∧ ∃ m, w' = w.drewN m
  f1 : ∀ w, Flt.cB .f32 .f64 re w = Flt.W re
  f2 : ∀ w, Flt.cB .f32 .f64 im w = Flt.W im

theorem okA_fin (i : Nat) (h : i < 64) : finW (ret i) = true ∧ finW (imt i) = true ∧ finW (ant i) = true ∧ finW (pwt i) = true := by
  have := okA_all0 i (by omega) h
  unfold okA at this
  simp only [Bool.and_eq_true] at this
  exact ⟨this.1.1.1.1.1.2, this.1.1.1.1.2, this.1.1.1.2, this.1.1.2⟩

theorem ph_of (k : Nat) (h : k < 511) : PhF k (yt k) (ret (k % 64)) (imt (k % 64)) := by
  have hk := okY_at k h
  unfold okY at hk
  simp only [Bool.and_eq_true, decide_eq_true_eq] at hk
  obtain ⟨⟨k1, k2⟩, k3⟩ := hk
  obtain ⟨r1, r2, -, -⟩ := okA_fin (k % 64) (Nat.mod_lt _ (by decide))
  refine ⟨fun w => fB_some k1 w, fun w => ?_, finW_wide r1, finW_wide r2⟩
  refine (ph_impl (yt k) w k3).mono ?_
  rintro e w' ⟨a, b, rfl, ha, hb, hm⟩
  rw [k2] at ha hb
  have e1 := (Flt.cls_some ha.cls).1
  have e2 := (Flt.cls_some hb.cls).1
  exact ⟨by rw [e1, e2], hm⟩

/-- the angle of a phasor and its power, and what is asked of them -/
structure AnF (c : Nat) (re im an pw ang turn s g1 g2 g3 : Nat) (wh : Int) : Prop where
  angle : ∀ w, Calls Try.prog 17 #[.complex .f32 re im] w fun e w' => e = .returned (.float .f32 an) ∧ ∃ m, w' = w.drewN m
  power : ∀ w, Calls Try.prog 19 #[.complex .f32 re im] w fun e w' => e = .returned (.float .f32 pw) ∧ ∃ m, w' = w.drewN m
  fa : ∀ w, Flt.cB .f32 .f64 an w = Flt.W an
  fp : ∀ w, Flt.cB .f32 .f64 pw w = Flt.W pw
  fr : ∀ w, Flt.cB .f32 .f64 re w = Flt.W re
  mul : ∀ w, Flt.fB .mul .f64 (Flt.W an) 4634204016564240384 w = ang
  sub : ∀ w, Flt.fB .sub .f64 ang (floatOfInt .f64 ((c : Int) - 128)) w = turn
  add : ∀ w, Flt.fB .add .f64 turn 4666723447345250304 w = s
  whole : ∀ w, (convert 25 2 (.float .f64 s)).run Try.prog w = .ok (.int .i64 wh) w
  lo : -6400 ≤ wh - 10000
  hi : wh ≤ 1000000
  rem : (wh - 10000).tmod 64 = 0
  gap1 : ∀ w, Calls Try.prog 18 #[.float .f64 (Flt.W pw), .float .f64 4607182418800017408] w fun e w' => e = .returned (.float .f64 g1) ∧ ∃ m, w' = w.drewN m
  le1 : (FloatKind.f64.format.order g1 4547007122018943789 == some .gt) = false
  gap2 : ∀ w, Calls Try.prog 18 #[.float .f64 turn, .float .f64 (floatOfInt .f64 (wh - 10000))] w fun e w' => e = .returned (.float .f64 g2) ∧ ∃ m, w' = w.drewN m
  le2 : (FloatKind.f64.format.order g2 4562254508917369340 == some .gt) = false
  gap3 : ∀ w, Calls Try.prog 18 #[.float .f64 (Flt.W re), .float .f64 0] w fun e w' => e = .returned (.float .f64 g3) ∧ ∃ m, w' = w.drewN m
  le3 : ((c : Int) - 128).tmod 16 ≠ 0 ∨ (FloatKind.f64.format.order g3 0 != some .eq) = false ∨ (FloatKind.f64.format.order g3 4607182418800017408 != some .eq) = false

theorem tmod16 (c : Nat) (h : ((c : Int) - 128).tmod 16 = 0) : c % 64 % 16 = 0 := by
  by_cases hc : 128 ≤ c
  · rw [Int.tmod_eq_emod_of_nonneg (by omega)] at h; omega
  · have e : ((c : Int) - 128) = -(128 - (c : Int)) := by omega
    rw [e, Int.neg_tmod, Int.tmod_eq_emod_of_nonneg (by omega)] at h
    omega

theorem an_of (c : Nat) (h : c < 256) : ∃ pw ang turn s g1 g2 g3 wh, AnF c (ret (c % 64)) (imt (c % 64)) (ant (c % 64)) pw ang turn s g1 g2 g3 wh := by
  have hi : c % 64 < 64 := Nat.mod_lt _ (by decide)
  obtain ⟨r1, r2, r3, r4⟩ := okA_fin (c % 64) hi
  have ha := okA_all0 (c % 64) (by omega) hi
  unfold okA at ha
  simp only [Bool.and_eq_true, decide_eq_true_eq, Option.any_eq_true, Bool.not_eq_true'] at ha
  obtain ⟨⟨⟨⟨⟨⟨⟨a1, a2⟩, -⟩, -⟩, -⟩, -⟩, g1, hg1, l1⟩, g3, hg3, l3⟩ := ha
  have ht := okT_all0 c (by omega) h
  unfold okT at ht
  simp only [Bool.and_eq_true, decide_eq_true_eq, Option.any_eq_true, Bool.not_eq_true'] at ht
  obtain ⟨ang, t1, turn, t2, s, t3, wh, t4, ⟨⟨t5, t6⟩, g2, hg2, l2⟩⟩ := ht
  refine ⟨pwt (c % 64), ang, turn, s, g1, g2, g3, wh, ?_⟩
  refine ⟨fun w => angleOf_any _ _ _ w a1, fun w => powerOf_any _ _ _ w (finW_wide r1) (finW_wide r2) a2, finW_wide r3, finW_wide r4, finW_wide r1, fun w => fB_some t1 w, fun w => fB_some t2 w, fun w => fB_some t3 w, fun w => run_convert_float_int w _ _ _ _ _ _ (by kernel_rfl) Try.underlying2 t4, by omega, by omega, t6, fun w => gap_any _ _ _ w hg1, l1, fun w => gap_any _ _ _ w hg2, l2, fun w => gap_any _ _ _ w hg3, ?_⟩
  by_cases hz : ((c : Int) - 128).tmod 16 = 0
  · have := tmod16 c hz
    simp only [Bool.or_eq_true, decide_eq_true_eq, Bool.not_eq_true'] at l3
    rcases l3 with (h | h) | h
    · exact absurd this h
    · exact .inr (.inl h)
    · exact .inr (.inr h)
  · exact .inl hz

/-- the product of two phasors lies near the third -/
structure MuF (re im re' im' re2 im2 m n : Nat) : Prop where
  mul : ∀ w, Calls Try.prog 21 #[.complex .f32 re im, .complex .f32 re' im'] w fun e w' => e = .returned (.complex .f32 m n) ∧ ∃ k, w' = w.drewN k
  near : ∀ w, Calls Try.prog 20 #[.complex .f32 m n, .complex .f32 re2 im2, .float .f64 4547007122018943789] w fun e w' => e = .returned (.bool true) ∧ ∃ k, w' = w.drewN k

theorem mu_of (i j : Nat) (hi : i < 64) (hj : j < 64) : ∃ m n, MuF (ret i) (imt i) (ret j) (imt j) (ret ((i + j) % 64)) (imt ((i + j) % 64)) m n := by
  have h := okM_at i j hi hj
  unfold okM nearB at h
  simp only [Bool.and_eq_true, Option.any_eq_true] at h
  obtain ⟨⟨m, h1, h2, g, h3, h4⟩, n, k1, k2, g', k3, k4⟩ := h
  obtain ⟨a1, a2, -, -⟩ := okA_fin i hi
  obtain ⟨b1, b2, -, -⟩ := okA_fin j hj
  obtain ⟨c1, c2, -, -⟩ := okA_fin ((i + j) % 64) (Nat.mod_lt _ (by decide))
  exact ⟨m, n, fun w => mulComplex_any _ _ _ _ _ _ w (finW_wide a1) (finW_wide a2) (finW_wide b1) (finW_wide b2) h1 k1, fun w => near_any _ _ _ _ _ _ w (finW_wide h2) (finW_wide k2) (finW_wide c1) (finW_wide c2) h3 k3 h4 k4⟩

/-! ### Tenths -/

theorem eighth_all : (List.range 200).all (fun e => floatBits .quo .f32 (floatOfInt .f32 (1 + (e : Int))) 1090519040 == some (w32 (8 * (e + 1)))) = true := by decide +kernel
theorem eighth_at (e : Nat) (h : e < 200) : floatBits .quo .f32 (floatOfInt .f32 (1 + (e : Int))) 1090519040 = some (w32 (8 * (e + 1))) :=
  beq_iff_eq.1 (List.all_eq_true.1 eighth_all e (List.mem_range.2 h))

theorem ten_call (k : Nat) (h0 : k ≠ 0) (h : k < 65536) (w : World) : Calls Try.prog 22 #[.float .f32 (w32 k)] w fun e w' => e = .returned (.tuple #[.int .i64 (tenI (w32 k)), .bool true]) ∧ ∃ m, w' = w.drewN m := by
  obtain ⟨c1, c2⟩ := w32_lt k h0 h
  have hp : posB (w32 k) = true := by unfold posB; exact decide_eq_true ⟨c1, c2⟩
  have := ten_impl (w32 k) w (by omega)
  rw [hp] at this
  exact this
theorem ten_call1 (w : World) : Calls Try.prog 22 #[.float .f32 1065353216] w fun e w' => e = .returned (.tuple #[.int .i64 0, .bool true]) ∧ ∃ m, w' = w.drewN m := by
  have := ten_call 64 (by decide) (by decide) w
  rw [show w32 64 = 1065353216 by decide +kernel, ten_one] at this
  exact this

structure TeF (e f : Nat) (x y z : Nat) (m n o : Int) : Prop where
  qx : ∀ w, Flt.fB .quo .f32 (floatOfInt .f32 (1 + (e : Int))) 1090519040 w = x
  qy : ∀ w, Flt.fB .quo .f32 (floatOfInt .f32 (1 + (f : Int))) 1090519040 w = y
  mul : ∀ w, Flt.fB .mul .f32 x y w = z
  cx : ∀ w, Calls Try.prog 22 #[.float .f32 x] w fun e w' => e = .returned (.tuple #[.int .i64 m, .bool true]) ∧ ∃ k, w' = w.drewN k
  cy : ∀ w, Calls Try.prog 22 #[.float .f32 y] w fun e w' => e = .returned (.tuple #[.int .i64 n, .bool true]) ∧ ∃ k, w' = w.drewN k
  cz : ∀ w, Calls Try.prog 22 #[.float .f32 z] w fun e w' => e = .returned (.tuple #[.int .i64 o, .bool true]) ∧ ∃ k, w' = w.drewN k
  hm : -200 ≤ m ∧ m ≤ 311
  hn : -200 ≤ n ∧ n ≤ 311
  ho : -200 ≤ o ∧ o ≤ 311
  l1 : m + n - o ≤ 1
  l2 : o - m - n ≤ 1

theorem te_of (e f : Nat) (he : e < 200) (hf : f < 200) : ∃ x y z m n o, TeF e f x y z m n o := by
  have hab : (e + 1) * (f + 1) ≠ 0 := Nat.mul_ne_zero (by omega) (by omega)
  have hab' : (e + 1) * (f + 1) ≤ 200 * 200 := Nat.mul_le_mul (by omega) (by omega)
  have p := ten_pair (e + 1) (f + 1) (by omega) (by omega)
  have p1 := ten_pair 8 (e + 1) (by omega) (by omega)
  have p2 := ten_pair 8 (f + 1) (by omega) (by omega)
  exact ⟨_, _, _, _, _, _, fun w => fB_some (eighth_at e he) w, fun w => fB_some (eighth_at f hf) w, fun w => fB_some (mul_w32 (e + 1) (f + 1) (by omega) (by omega) (by omega) (by omega)) w, ten_call _ (by omega) (by omega), ten_call _ (by omega) (by omega), ten_call _ hab (by omega), p1.2.2, p2.2.2, p.2.2, p.1, p.2.1⟩

end Go.Proofs.Ytdomcjiiilbajaa
