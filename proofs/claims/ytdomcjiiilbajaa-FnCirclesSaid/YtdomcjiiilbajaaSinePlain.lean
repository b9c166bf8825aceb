/- The sine of turns as a plain function of words: every step of it is a number, and small. -/
import Derived.Test.YtdomcjiiilbajaaPart
namespace Go.Proofs.Ytdomcjiiilbajaa.Flt
open Ieee
open Go.RowKit

def sF (y : Nat) : Nat := o .sub y (wholeW y)
def up1 (f : Nat) : Nat := bif (FloatKind.f64.format.order f 0 == some .lt) then o .add f 4607182418800017408 else f
def sinB (f : Nat) : Bool := FloatKind.f64.format.order f 4602678819172646912 == some .gt || FloatKind.f64.format.order f 4602678819172646912 == some .eq
def sin2 (f : Nat) : Nat := bif sinB f then o .sub f 4602678819172646912 else f
def sin3 (f : Nat) : Nat := bif (FloatKind.f64.format.order f 4598175219545276416 == some .gt) then o .sub 4602678819172646912 f else f
def sinZ (y : Nat) : Nat := o .mul (sin3 (sin2 (up1 (sF y)))) 4618760256179416344
def sinK : Nat → Int
  | 0 => 272 | 1 => 210 | 2 => 156 | 3 => 110 | 4 => 72 | 5 => 42 | 6 => 20 | _ => 6
def sinP (u : Nat) : Nat → Nat
  | 0 => 4607182418800017408
  | j + 1 => o .sub 4607182418800017408 (o .quo (o .mul u (sinP u j)) (floatOfInt .f64 (sinK j)))
def sinV (y : Nat) : Nat := o .mul (sinZ y) (sinP (o .mul (sinZ y) (sinZ y)) 8)
def sinR (y : Nat) : Nat := bif sinB (up1 (sF y)) then Op.negFloat .f64 (sinV y) else sinV y

theorem N_one : N 4607182418800017408 0 := by show rung _ _ ≤ _; decide +kernel
theorem N_half : N 4602678819172646912 0 := by show rung _ _ ≤ _; decide +kernel
theorem N_circle : N 4618760256179416344 3 := by show rung _ _ ≤ _; decide +kernel
theorem P_one : P 4607182418800017408 := by show sgn _ _ = false; decide +kernel

theorem rung_neg (x : Nat) : rung FloatKind.f64.format (Op.negFloat .f64 x) = rung FloatKind.f64.format x := by
  show (x ^^^ 9223372036854775808) % 9223372036854775808 = x % 9223372036854775808
  rw [show (9223372036854775808 : Nat) = 2 ^ 63 from rfl, Nat.xor_mod_two_pow, Nat.mod_self, Nat.xor_zero]

theorem sF_o (y : Nat) (h : N y 52) : (∀ w, fB .sub .f64 y (wholeW y) w = sF y) ∧ N (sF y) 0 := o_of (frac_nb y h)

theorem neg_of_lt {f : Nat} (h : N f 100) (hl : (FloatKind.f64.format.order f 0 == some .lt) = true) : sgn FloatKind.f64.format f = true := by
  have hr := h.rung_le (by decide) (by decide)
  rw [flt (by omega) (by decide), decide_eq_true_iff, show srung FloatKind.f64.format 0 = 0 by decide] at hl
  unfold srung at hl
  cases hs : sgn FloatKind.f64.format f with
  | true => rfl
  | false => rw [hs] at hl; simp at hl; omega

theorem up1_o (f : Nat) (h : N f 0) : ((FloatKind.f64.format.order f 0 == some .lt) = true → ∀ w, fB .add .f64 f 4607182418800017408 w = up1 f) ∧ ((FloatKind.f64.format.order f 0 == some .lt) = false → f = up1 f) ∧ N (up1 f) 0 := by
  unfold up1
  cases hl : (FloatKind.f64.format.order f 0 == some .lt) with
  | false => exact ⟨fun h => by simp at h, fun _ => rfl, h⟩
  | true =>
    have := o_of (Nb.add_opp h.nb N_one.nb (fun b hb => by cases hb; exact neg_of_lt (h.mono (by decide)) hl) P_one.nn (rg64 (by decide) (by decide)))
    exact ⟨fun _ => this.1, fun h => by simp at h, this.2⟩

theorem sin2_o (f : Nat) (h : N f 0) : (sinB f = true → ∀ w, fB .sub .f64 f 4602678819172646912 w = sin2 f) ∧ (sinB f = false → f = sin2 f) ∧ N (sin2 f) 1 := by
  unfold sin2
  cases hl : sinB f with
  | false => exact ⟨fun h => by simp at h, fun _ => rfl, h.mono (by decide)⟩
  | true =>
    have := o_sub h N_half
    exact ⟨fun _ => this.1, fun h => by simp at h, this.2⟩

theorem sin3_o (f : Nat) (h : N f 1) : ((FloatKind.f64.format.order f 4598175219545276416 == some .gt) = true → ∀ w, fB .sub .f64 4602678819172646912 f w = sin3 f) ∧ ((FloatKind.f64.format.order f 4598175219545276416 == some .gt) = false → f = sin3 f) ∧ N (sin3 f) 2 := by
  unfold sin3
  cases hl : (FloatKind.f64.format.order f 4598175219545276416 == some .gt) with
  | false => exact ⟨fun h => by simp at h, fun _ => rfl, h.mono (by decide)⟩
  | true =>
    have := o_sub (N_half.mono (show (0 : Int) ≤ 1 by decide)) h
    exact ⟨fun _ => this.1, fun h => by simp at h, this.2⟩

theorem sinK_lb (j : Nat) : Lb .f64 (some (floatOfInt .f64 (sinK j))) 2 := by
  have h : ∀ j < 8, pw FloatKind.f64.format 2 ≤ rung FloatKind.f64.format (floatOfInt .f64 (sinK j)) ∧ rung FloatKind.f64.format (floatOfInt .f64 (sinK j)) ≤ FloatKind.f64.format.infRung := by decide +kernel
  by_cases hj : j < 8
  · exact ⟨_, rfl, h j hj⟩
  · obtain ⟨i, rfl⟩ : ∃ i, j = i + 7 := ⟨j - 7, by omega⟩
    exact ⟨_, rfl, h 7 (by decide)⟩

theorem sinP_N (u : Nat) (hu : N u 10) : ∀ j, j ≤ 8 → N (sinP u j) (9 * j)
  | 0, _ => N_one
  | j + 1, hj => by
    have ih := sinP_N u hu j (by omega)
    have h1 := o_mul hu ih
    have h2 := o_div h1.2 (sinK_lb j)
    have h3 := o_sub (N_one.mono (show (0 : Int) ≤ 10 + 9 * j - 2 by omega)) h2.2
    exact h3.2.mono (by omega)

theorem sinP_o (u : Nat) (hu : N u 10) (j : Nat) (hj : j < 8) : ∀ w w2 w3, fB .sub .f64 4607182418800017408 (fB .quo .f64 (fB .mul .f64 u (sinP u j) w) (floatOfInt .f64 (sinK j)) w2) w3 = sinP u (j + 1) := by
  intro w w2 w3
  have ih := sinP_N u hu j (by omega)
  have h1 := o_mul hu ih
  have h2 := o_div h1.2 (sinK_lb j)
  have h3 := o_sub (N_one.mono (show (0 : Int) ≤ 10 + 9 * j - 2 by omega)) h2.2
  rw [h1.1, h2.1, h3.1]
  rfl

/-- All the steps behind the part of a turn. -/
theorem sin_steps (f1 : Nat) (h : N f1 0) : ∃ (f2 f3 z u v : Nat) (b c : Bool),
    (FloatKind.f64.format.order f1 4602678819172646912 == some .gt || FloatKind.f64.format.order f1 4602678819172646912 == some .eq) = b ∧
    (b = true → ∀ w, fB .sub .f64 f1 4602678819172646912 w = f2) ∧ (b = false → f1 = f2) ∧
    (FloatKind.f64.format.order f2 4598175219545276416 == some .gt) = c ∧
    (c = true → ∀ w, fB .sub .f64 4602678819172646912 f2 w = f3) ∧ (c = false → f2 = f3) ∧
    (∀ w, fB .mul .f64 f3 4618760256179416344 w = z) ∧ (∀ w, fB .mul .f64 z z w = u) ∧
    (∀ j < 8, ∀ w w2 w3, fB .sub .f64 4607182418800017408 (fB .quo .f64 (fB .mul .f64 u (sinP u j) w) (floatOfInt .f64 (sinK j)) w2) w3 = sinP u (j + 1)) ∧
    (∀ w, fB .mul .f64 z (sinP u 8) w = v) ∧
    (∀ y, up1 (sF y) = f1 → sinR y = bif b then Op.negFloat .f64 v else v) ∧ N v 100 := by
  have h2 := sin2_o f1 h
  have h3 := sin3_o _ h2.2.2
  have h4 := o_mul h3.2.2 N_circle
  have h5 := o_mul h4.2 h4.2
  have h6 := o_mul h4.2 (sinP_N _ (h5.2.mono (by decide)) 8 (by decide))
  refine ⟨sin2 f1, sin3 (sin2 f1), _, _, _, sinB f1, _, rfl, h2.1, h2.2.1, rfl, h3.1, h3.2.1, h4.1, h5.1, fun j hj => sinP_o _ (h5.2.mono (by decide)) j hj, h6.1, fun y hy => ?_, h6.2.mono (by decide)⟩
  unfold sinR sinV sinZ
  rw [hy]

theorem sinR_N (y : Nat) (h : N y 52) : N (sinR y) 100 := by
  obtain ⟨f2, f3, z, u, v, b, c, _, _, _, _, _, _, _, _, _, _, hR, hN⟩ := sin_steps _ (up1_o _ (sF_o y h).2).2.2
  rw [hR y rfl]
  cases b
  · exact hN
  · show rung _ _ ≤ _
    rw [cond_true, rung_neg]; exact hN

end Go.Proofs.Ytdomcjiiilbajaa.Flt
