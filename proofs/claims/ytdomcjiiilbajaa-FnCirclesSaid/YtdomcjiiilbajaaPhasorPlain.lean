/- The quadrant of a part of a turn, and the phasor, as plain functions of words. -/
import Derived.Test.YtdomcjiiilbajaaSinePlain
namespace Go.Proofs.Ytdomcjiiilbajaa.Flt
open Ieee
open Go.RowKit

set_option exponentiation.threshold 2000 in
/-- A quarter less, exactly: a smaller number. -/
theorem quarter_step (f : Nat) (h : N f 0) (hge : (FloatKind.f64.format.order f 4598175219545276416 == some .gt || FloatKind.f64.format.order f 4598175219545276416 == some .eq) = true) :
    (∀ w, fB .sub .f64 f 4598175219545276416 w = o .sub f 4598175219545276416) ∧ N (o .sub f 4598175219545276416) 0 ∧ rung FloatKind.f64.format (o .sub f 4598175219545276416) < rung FloatKind.f64.format f := by
  have hone : pw FloatKind.f64.format 0 = 4607182418800017408 := by decide +kernel
  have hle : rung FloatKind.f64.format f ≤ 4607182418800017408 := by rw [← hone]; exact h
  have hi := inf64
  have hb : FloatKind.f64.format.binade = 4503599627370496 := by decide
  have hl : FloatKind.f64.format.leastPlace = -1074 := by decide
  rw [fge (by omega) (by decide), decide_eq_true_iff, show srung FloatKind.f64.format 4598175219545276416 = 4598175219545276416 by decide] at hge
  have hs : sgn FloatKind.f64.format f = false := by
    unfold srung at hge
    cases hs : sgn FloatKind.f64.format f with
    | false => rfl
    | true => rw [hs] at hge; simp at hge; omega
  have hr : 4598175219545276416 ≤ rung FloatKind.f64.format f := by
    unfold srung at hge
    rw [hs] at hge; simp at hge; omega
  have e1 := read_num FloatKind.f64.format f (by omega)
  rw [hs, hl] at e1
  have e2 : FloatKind.f64.format.read 4598175219545276416 = .number false 4503599627370496 (-1074 + ((1020 : Nat) : Int)) := by decide +kernel
  have hvr := mag_plc_val FloatKind.f64.format (rung FloatKind.f64.format f)
  have hm1 : 4503599627370496 ≤ mag FloatKind.f64.format (rung FloatKind.f64.format f) := by unfold mag; rw [hb, if_neg (by omega)]; omega
  have hm2 : mag FloatKind.f64.format (rung FloatKind.f64.format f) < 9007199254740992 := by unfold mag; rw [hb, if_neg (by omega)]; omega
  have hq1 : 1020 ≤ plc FloatKind.f64.format (rung FloatKind.f64.format f) := by unfold plc; rw [hb]; omega
  have hq2 : plc FloatKind.f64.format (rung FloatKind.f64.format f) ≤ 1021 ∨ (plc FloatKind.f64.format (rung FloatKind.f64.format f) = 1022 ∧ mag FloatKind.f64.format (rung FloatKind.f64.format f) = 4503599627370496) := by
    unfold plc mag; rw [hb, if_neg (by omega)]; omega
  generalize mag FloatKind.f64.format (rung FloatKind.f64.format f) = m at *
  generalize plc FloatKind.f64.format (rung FloatKind.f64.format f) = q at *
  obtain ⟨t, ht⟩ : ∃ t, q = 1020 + t := ⟨q - 1020, by omega⟩
  have hA : 4503599627370496 ≤ m * 2 ^ t := Nat.le_trans hm1 (Nat.le_mul_of_pos_right _ (Nat.two_pow_pos _))
  have hA2 : m * 2 ^ t ≤ 18014398509481984 := by
    rcases hq2 with h2 | ⟨h2, h3⟩
    · rcases (show t = 0 ∨ t = 1 by omega) with rfl | rfl <;> omega
    · obtain rfl : t = 2 := by omega
      omega
  have hA3 : 13510798882111488 ≤ m * 2 ^ t → m * 2 ^ t % 2 = 0 := by
    intro hh
    rcases hq2 with h2 | ⟨h2, h3⟩
    · rcases (show t = 0 ∨ t = 1 by omega) with rfl | rfl
      · omega
      · omega
    · obtain rfl : t = 2 := by omega
      omega
  obtain ⟨d, hd⟩ : ∃ d, m * 2 ^ t = 4503599627370496 + d := ⟨m * 2 ^ t - 4503599627370496, by omega⟩
  have hsub : ∃ s, FloatKind.f64.format.sub f 4598175219545276416 = some (FloatKind.f64.format.nearest s d (-54)) := by
    unfold Format.sub
    rw [e1, e2]
    have key : (signed false m ((-1074 + (q : Int)) - min (-1074 + (q : Int)) (-1074 + ((1020 : Nat) : Int))).toNat + signed true 4503599627370496 ((-1074 + ((1020 : Nat) : Int)) - min (-1074 + (q : Int)) (-1074 + ((1020 : Nat) : Int))).toNat).natAbs = d := by
      rw [show min (-1074 + (q : Int)) (-1074 + ((1020 : Nat) : Int)) = -54 by omega, show ((-1074 + (q : Int)) - -54).toNat = t by omega, show ((-1074 + ((1020 : Nat) : Int)) - -54).toNat = 0 by decide, signed_val, signed_val, hd]
      simp
      omega
    refine ⟨?_, ?_⟩
    rotate_left
    · show some (FloatKind.f64.format.nearest _ _ _) = _
      have kk : (signed false m ((-1074 + (q : Int)) - min (-1074 + (q : Int)) (-1074 + ((1020 : Nat) : Int))).toNat + signed (!false) 4503599627370496 ((-1074 + ((1020 : Nat) : Int)) - min (-1074 + (q : Int)) (-1074 + ((1020 : Nat) : Int))).toNat).natAbs = d := key
      rw [kk, show min (-1074 + (q : Int)) (-1074 + ((1020 : Nat) : Int)) = -54 by omega]
  obtain ⟨s, hsub⟩ := hsub
  have ho : o .sub f 4598175219545276416 = FloatKind.f64.format.nearest s d (-54) := by
    unfold o
    show (FloatKind.f64.format.sub f 4598175219545276416).getD 0 = _
    rw [hsub]; rfl
  have hf : ∀ w, fB .sub .f64 f 4598175219545276416 w = o .sub f 4598175219545276416 := fun w => by
    unfold fB
    show (FloatKind.f64.format.sub f 4598175219545276416).getD _ = _
    rw [hsub, ho]; rfl
  have hlt : rung FloatKind.f64.format (FloatKind.f64.format.nearest s d (-54)) < rung FloatKind.f64.format f := by
    by_cases hd0 : d = 0
    · rw [hd0]
      unfold Format.nearest
      rw [if_pos rfl, rung_word _ _ _ (by decide +kernel)]
      omega
    have L1 := log2_lo d hd0
    have L2 := log2_hi d
    have hL : d.log2 ≤ 53 := by
      apply Classical.byContradiction
      intro hge
      have := Nat.pow_le_pow_right (show 0 < 2 by decide) (show 54 ≤ d.log2 by omega)
      omega
    have hlt2 := infRung_lt FloatKind.f64.format
    have fin : ∀ mg q', mg ≠ 0 → mg < 9007199254740992 → 4503599627370496 ≤ mg → d * 2 ^ 1020 = mg * 2 ^ q' → q' ≤ 1022 → rung FloatKind.f64.format (FloatKind.f64.format.nearest s d (-54)) < rung FloatKind.f64.format f := by
      intro mg q' h0 h1 h2 h3 h4
      have g := nearest_grid FloatKind.f64.format s d 1020 mg q' h0 (by rw [hb]; omega) (.inr (by rw [hb]; exact h2)) (by
        rw [show (1020 : Int).toNat = 1020 by decide, show (-(1020 : Int)).toNat = 0 by decide, Nat.pow_zero, Nat.mul_one]; exact h3)
      rw [hl, show (-1074 + 1020 : Int) = -54 by decide] at g
      have hsum : q' * 4503599627370496 + mg < 9218868437227405312 := by
        have : q' * 4503599627370496 ≤ 1022 * 4503599627370496 := Nat.mul_le_mul_right _ h4
        omega
      rw [g, hb, hi, Nat.min_eq_left (by omega), rung_word _ _ _ (by omega), ← val_lt_iff FloatKind.f64.format, hvr]
      have hv := val_grid FloatKind.f64.format mg q' (by rw [hb]; omega) (.inr (by rw [hb]; exact h2))
      rw [hb] at hv
      rw [hv, ← h3, ht, Nat.add_comm 1020 t, Nat.pow_add, ← Nat.mul_assoc, hd]
      exact Nat.mul_lt_mul_of_pos_right (by omega) (Nat.two_pow_pos _)
    by_cases h52 : d.log2 ≤ 52
    · refine fin (d * 2 ^ (52 - d.log2)) (968 + d.log2) ?_ ?_ ?_ ?_ (by omega)
      · have := Nat.mul_pos (show 0 < d by omega) (Nat.two_pow_pos (52 - d.log2)); omega
      · have := Nat.mul_lt_mul_of_pos_right L2 (Nat.two_pow_pos (52 - d.log2))
        rw [← Nat.pow_add, show d.log2 + 1 + (52 - d.log2) = 53 by omega] at this
        exact this
      · have := Nat.mul_le_mul_right (2 ^ (52 - d.log2)) L1
        rw [← Nat.pow_add, show d.log2 + (52 - d.log2) = 52 by omega] at this
        exact this
      · rw [Nat.mul_assoc, ← Nat.pow_add, show 52 - d.log2 + (968 + d.log2) = 1020 by omega]
    · have e53 : d.log2 = 53 := by omega
      rw [e53] at L1 L2
      refine fin (d / 2) 1021 (by omega) (by omega) (by omega) ?_ (by decide)
      have hev : d % 2 = 0 := by
        have := hA3 (by omega)
        omega
      rw [show (1021 : Nat) = 1 + 1020 from rfl, Nat.pow_add, ← Nat.mul_assoc]
      congr 1
      omega
  refine ⟨hf, ?_, by rw [ho]; exact hlt⟩
  show rung _ _ ≤ _
  rw [ho]
  omega

def geq (f : Nat) : Bool := FloatKind.f64.format.order f 4598175219545276416 == some .gt || FloatKind.f64.format.order f 4598175219545276416 == some .eq
def phL : Nat → Nat → Int → Nat × Int
  | 0, f, k => (f, k)
  | n + 1, f, k => bif geq f then phL n (o .sub f 4598175219545276416) (k + 1) else (f, k)

theorem phL_stop (n f : Nat) (k : Int) (h : geq f = false) : phL n f k = (f, k) := by
  cases n with
  | zero => rfl
  | succ n => unfold phL; rw [h]; rfl

theorem geq_pos (f : Nat) (h : N f 0) (hg : geq f = true) : 0 < rung FloatKind.f64.format f := by
  have := (quarter_step f h hg).2.2
  omega

theorem phL_N (n : Nat) : ∀ (f : Nat) (k : Int), N f 0 → N (phL n f k).1 0 := by
  induction n with
  | zero => intro f k h; exact h
  | succ n ih =>
    intro f k h
    cases hg : geq f with
    | false => rw [phL_stop _ _ _ hg]; exact h
    | true =>
      unfold phL; rw [hg]
      exact ih _ _ (quarter_step f h hg).2.1

def phE (f : Nat) : Nat × Int := phL (rung FloatKind.f64.format f) f 0
def neg0 (x : Nat) : Nat := o .sub 0 x
/-- the two words of the phasor of a part of a turn, in the quadrant k -/
def phQ (k : Int) (re im : Nat) : Nat × Nat :=
  if k = 1 then (neg0 im, re) else if k = 2 then (neg0 re, neg0 im) else if k = 3 then (im, neg0 re) else (re, im)
theorem phQ_1 (re im : Nat) : phQ 1 re im = (neg0 im, re) := rfl
theorem phQ_2 (re im : Nat) : phQ 2 re im = (neg0 re, neg0 im) := rfl
theorem phQ_3 (re im : Nat) : phQ 3 re im = (im, neg0 re) := rfl
theorem phQ_o (k : Int) (re im : Nat) (h1 : k ≠ 1) (h2 : k ≠ 2) (h3 : k ≠ 3) : phQ k re im = (re, im) := by unfold phQ; rw [if_neg h1, if_neg h2, if_neg h3]
def phP (y : Nat) : Nat × Nat := phQ (phE (up1 (sF y))).2 (sinR (o .sub 4598175219545276416 (phE (up1 (sF y))).1)) (sinR (phE (up1 (sF y))).1)

theorem N_quart : N 4598175219545276416 0 := by show rung _ _ ≤ _; decide +kernel
theorem N_zero (e : Int) : N 0 e := by
  show rung FloatKind.f64.format 0 ≤ _
  exact Nat.zero_le _

theorem neg0_o (x : Nat) (h : N x 100) : (∀ w, fB .sub .f64 0 x w = neg0 x) ∧ N (neg0 x) 101 := by
  unfold neg0
  have := o_sub (N_zero 100) h
  exact ⟨this.1, this.2.mono (by decide)⟩

theorem pw51 : pw FloatKind.f64.format 51 = 4836865999795912704 := by decide +kernel
theorem near_of (x : Nat) (e : Int) (he : e ≤ 51) (h : N x e) : N x 52 ∧ rung FloatKind.f64.format x < 4841369599423283200 := by
  have h1 : rung FloatKind.f64.format x ≤ pw FloatKind.f64.format 51 := h.mono he
  rw [pw51] at h1
  exact ⟨h.mono (Int.le_trans he (by decide)), by omega⟩

end Go.Proofs.Ytdomcjiiilbajaa.Flt
