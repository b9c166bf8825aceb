/- The part of a number of turns behind the whole ones, as a plain function of words: both ways to it give one word; it is at most 1 in magnitude. -/
import Derived.Test.YtdomcjiiilbajaaNum
namespace Go.Proofs.Ytdomcjiiilbajaa.Flt
open Ieee
open Go.RowKit

theorem cut_any' (way : Toward) (neg : Bool) (n d b : Nat) (h : n ≤ b * 2 ^ d) : way.cut neg n d ≤ b + 1 := by
  unfold Toward.cut
  dsimp only
  rw [Nat.one_shiftLeft]
  have key : n / 2 ^ min d (n.log2 + 2) ≤ b := by
    by_cases hd : d ≤ n.log2 + 2
    · rw [Nat.min_eq_left hd]
      exact Nat.div_le_of_le_mul (by rw [Nat.mul_comm]; exact h)
    · rw [Nat.min_eq_right (by omega), Nat.div_eq_of_lt]
      · exact Nat.zero_le _
      · have := log2_hi n
        have := Nat.pow_le_pow_right (show 0 < 2 by decide) (show n.log2 + 1 ≤ n.log2 + 2 by omega)
        omega
  exact Nat.add_le_add key (Bool.toNat_le _)

/-- towards zero: the whole part -/
theorem cut_zero (neg : Bool) (n d : Nat) : Toward.zero.cut neg n d = n / 2 ^ d := by
  unfold Toward.cut
  dsimp only
  rw [Nat.one_shiftLeft]
  by_cases hd : d ≤ n.log2 + 2
  · rw [Nat.min_eq_left hd]; rfl
  · have h1 := log2_hi n
    have h2 := Nat.pow_le_pow_right (show 0 < 2 by decide) (show n.log2 + 1 ≤ n.log2 + 2 by omega)
    have h3 := Nat.pow_le_pow_right (show 0 < 2 by decide) (show n.log2 + 2 ≤ d by omega)
    rw [Nat.min_eq_right (by omega), Nat.div_eq_of_lt (by omega), Nat.div_eq_of_lt (by omega)]; rfl

/-- the whole number of a number, towards zero -/
def wholeI (y : Nat) : Int := (floatToIntVal .f64 y .i64).getD 0
def wholeW (y : Nat) : Nat := floatOfInt .f64 (wholeI y)
def trW (y : Nat) : Nat := FloatKind.f64.encode ((FloatKind.f64.decode y).integral .zero)

/-- A word of magnitude below 2 ^ 52: its sign, its parts, and its whole part. -/
theorem whole_parts (y : Nat) (h : N y 52) :
    ∃ (s : Bool) (m c : Nat) (p : Int), s = sgn FloatKind.f64.format y ∧ FloatKind.f64.format.read y = .number s m p ∧ Le2 m p 52 ∧ c = m * 2 ^ p.toNat / 2 ^ (-p).toNat ∧ c ≤ 2 ^ 52 ∧
      floatToIntVal .f64 y .i64 = some (signed s c 0) ∧ trW y = FloatKind.f64.format.nearest s c 0 := by
  obtain ⟨m, p, e1, l1⟩ := read_nb .f64 y 52 (rg64 (by decide) (by decide)) h
  have hc : m * 2 ^ p.toNat / 2 ^ (-p).toNat ≤ 2 ^ 52 := by
    rcases l1 with l1 | ⟨n, h1, h2⟩
    · rw [l1]; simp
    · by_cases hp : 0 ≤ p
      · rw [show (-p).toNat = 0 by omega, Nat.pow_zero, Nat.div_one]
        have := Nat.mul_le_mul_right (2 ^ p.toNat) h2
        rw [← Nat.pow_add, show n + p.toNat = 52 by omega] at this
        exact this
      · rw [show p.toNat = 0 by omega, Nat.pow_zero, Nat.mul_one]
        refine Nat.div_le_of_le_mul ?_
        rw [← Nat.pow_add, show (-p).toNat + 52 = n by omega]
        exact h2
  have hcut : Toward.zero.cut (sgn FloatKind.f64.format y) (m <<< p.toNat) (-p).toNat = m * 2 ^ p.toNat / 2 ^ (-p).toNat := by rw [cut_zero, Nat.shiftLeft_eq]
  refine ⟨sgn FloatKind.f64.format y, m, m * 2 ^ p.toNat / 2 ^ (-p).toNat, p, rfl, e1, l1, rfl, hc, ?_, ?_⟩
  · unfold floatToIntVal
    rw [show FloatKind.f64.decode y = _ from e1]
    show (if IntKind.i64.min ≤ signed _ (Toward.zero.cut _ _ _) 0 ∧ signed _ (Toward.zero.cut _ _ _) 0 ≤ IntKind.i64.max then some (signed _ (Toward.zero.cut _ _ _) 0) else none) = _
    rw [hcut]
    rw [if_pos]
    generalize m * 2 ^ p.toNat / 2 ^ (-p).toNat = c at hc
    rw [signed_val, Nat.pow_zero, Nat.mul_one]
    have e1 : IntKind.i64.min = -9223372036854775808 := by decide
    have e2 : IntKind.i64.max = 9223372036854775807 := by decide
    rw [e1, e2]
    cases sgn FloatKind.f64.format y <;> simp <;> omega
  · unfold trW
    rw [show FloatKind.f64.decode y = _ from e1]
    show FloatKind.f64.format.nearest _ (Toward.zero.cut _ _ _) 0 = _
    rw [hcut]

/-- The reference's whole part is the program's, but for the sign of a zero. -/
theorem whole_eq (y : Nat) (h : N y 52) : (rung FloatKind.f64.format (trW y) = 0 → wholeW y = 0) ∧ (rung FloatKind.f64.format (trW y) ≠ 0 → wholeW y = trW y) ∧ N (trW y) 52 ∧ N (wholeW y) 52 ∧
    floatToIntVal .f64 y .i64 = some (wholeI y) := by
  obtain ⟨s, m, c, p, hs, e1, l1, hc, hc2, e2, e3⟩ := whole_parts y h
  have hI : wholeI y = signed s c 0 := by unfold wholeI; rw [e2]; rfl
  have hWv : wholeW y = FloatKind.f64.format.nearest (signed s c 0 < 0) (signed s c 0).natAbs 0 := by
    unfold wholeW; rw [hI]; rfl
  have hab : (signed s c 0).natAbs = c := by rw [signed_abs, Nat.pow_zero, Nat.mul_one]
  have hn : ∀ t, N (FloatKind.f64.format.nearest t c 0) 52 := fun t => nearest_le _ _ _ _ _ (by decide) (.inr ⟨52, by decide, hc2⟩)
  have hz : c = 0 → FloatKind.f64.format.nearest false 0 0 = 0 := fun _ => by decide +kernel
  rw [hWv, hab, e3]
  refine ⟨fun hr => ?_, fun hr => ?_, hn s, hn _, by rw [e2, hI]⟩
  · have hc0 : c = 0 := by
      apply Classical.byContradiction
      intro hne
      have := nearest_ge FloatKind.f64.format s c 0 0 (by decide) (by decide +kernel) hne (by omega)
      have hp : 0 < pw FloatKind.f64.format 0 := by decide +kernel
      omega
    subst hc0
    have : signed s 0 0 = 0 := by rw [signed_val]; cases s <;> simp
    rw [this]
    exact hz rfl
  · have hc0 : c ≠ 0 := by
      intro e
      subst e
      apply hr
      have hnz : FloatKind.f64.format.nearest s 0 0 = FloatKind.f64.format.word s 0 := by unfold Format.nearest; rw [if_pos rfl]
      rw [hnz, rung_word _ _ _ (by decide +kernel)]
    congr 1
    rw [signed_val, Nat.pow_zero, Nat.mul_one]
    cases s <;> simp <;> omega

/-- What is left behind the whole part is at most 1. -/
theorem frac_nb (y : Nat) (h : N y 52) : Nb .f64 (fop .sub .f64 (some y) (some (wholeW y))) 0 := by
  obtain ⟨s, m, c, p, hs, e1, l1, hc, hc2, e2, e3⟩ := whole_parts y h
  obtain ⟨_, _, _, hw, _⟩ := whole_eq y h
  have hI : wholeI y = signed s c 0 := by unfold wholeI; rw [e2]; rfl
  have hab : (signed s c 0).natAbs = c := by rw [signed_abs, Nat.pow_zero, Nat.mul_one]
  show Nb .f64 (FloatKind.f64.format.sub y (wholeW y)) 0
  unfold Format.sub
  by_cases hc0 : c = 0
  · have hW0 : wholeW y = 0 := by
      unfold wholeW; rw [hI, hc0]
      have : signed s 0 0 = 0 := by rw [signed_val]; cases s <;> simp
      rw [this]; decide +kernel
    rw [hW0, e1]
    have hz : FloatKind.f64.format.read 0 = .number false 0 (-1074) := by decide +kernel
    rw [hz]
    show Nb .f64 (some (FloatKind.f64.format.nearest _ _ _)) 0
    refine nearest_nb .f64 _ _ _ _ (rg64 (by decide) (by decide)) ?_
    by_cases hm : m = 0
    · left; rw [hm, signed_val, signed_val]; cases s <;> simp
    right
    -- m * 2 ^ p < 1
    have hp : p < 0 := by
      apply Classical.byContradiction
      intro hge
      rw [show (-p).toNat = 0 by omega, Nat.pow_zero, Nat.div_one, hc0] at hc
      have : 0 < m * 2 ^ p.toNat := Nat.mul_pos (by omega) (Nat.two_pow_pos _)
      omega
    have hm2 : m < 2 ^ (-p).toNat := by
      rw [show p.toNat = 0 by omega, Nat.pow_zero, Nat.mul_one, hc0] at hc
      apply Classical.byContradiction
      intro hge
      have : 1 ≤ m / 2 ^ (-p).toNat := (Nat.le_div_iff_mul_le (Nat.two_pow_pos _)).2 (by omega)
      omega
    refine ⟨(-(min p (-1074 : Int))).toNat, by omega, ?_⟩
    have e : (signed s m (p - min p (-1074)).toNat + signed (!false) 0 ((-1074 : Int) - min p (-1074)).toNat).natAbs = m * 2 ^ (p - min p (-1074)).toNat := by
      rw [signed_val, signed_val]
      generalize m * 2 ^ (p - min p (-1074)).toNat = x
      cases s <;> simp
    rw [e, show (-(min p (-1074 : Int))).toNat = (-p).toNat + (p - min p (-1074)).toNat by omega, Nat.pow_add]
    exact Nat.mul_le_mul_right _ (Nat.le_of_lt hm2)
  · -- the word of the whole part is on the grid
    have hL := log2_lo c hc0
    have hH := log2_hi c
    have hlog : c.log2 ≤ 52 := by
      apply Classical.byContradiction
      intro hge
      have := Nat.pow_le_pow_right (show 0 < 2 by decide) (show 53 ≤ c.log2 by omega)
      omega
    have hWn : wholeW y = FloatKind.f64.format.nearest s c 0 := by
      unfold wholeW; rw [hI]
      show FloatKind.f64.format.nearest (decide (signed s c 0 < 0)) (signed s c 0).natAbs 0 = _
      rw [hab]
      congr 1
      rw [signed_val, Nat.pow_zero, Nat.mul_one]
      cases s <;> simp <;> omega
    have hb : FloatKind.f64.format.binade = 4503599627370496 := by decide
    have hl : FloatKind.f64.format.leastPlace = -1074 := by decide
    have k1 : 2 ^ (52 : Nat) ≤ c * 2 ^ (52 - c.log2) := by
      have := Nat.mul_le_mul_right (2 ^ (52 - c.log2)) hL
      rwa [← Nat.pow_add, show c.log2 + (52 - c.log2) = 52 by omega] at this
    have k2 : c * 2 ^ (52 - c.log2) < 2 ^ (53 : Nat) := by
      have := Nat.mul_lt_mul_of_pos_right hH (Nat.two_pow_pos (52 - c.log2))
      rwa [← Nat.pow_add, show c.log2 + 1 + (52 - c.log2) = 53 by omega] at this
    have g := nearest_grid FloatKind.f64.format s c 1074 (c * 2 ^ (52 - c.log2)) (1074 + c.log2 - 52) (by omega) (by rw [hb]; omega) (.inr (by rw [hb]; omega)) (by
      rw [show (-(1074 : Int)).toNat = 0 by decide, Nat.pow_zero, Nat.mul_one, show (1074 : Int).toNat = 1074 by decide, Nat.mul_assoc, ← Nat.pow_add, show 52 - c.log2 + (1074 + c.log2 - 52) = 1074 by omega])
    rw [hl, show (-1074 + 1074 : Int) = 0 by decide] at g
    have hi : FloatKind.f64.format.infRung = 2047 * 2 ^ 52 := by decide
    have hsum : (1074 + c.log2 - 52) * FloatKind.f64.format.binade + c * 2 ^ (52 - c.log2) < FloatKind.f64.format.infRung := by
      rw [hb, hi]
      have : (1074 + c.log2 - 52) * 4503599627370496 ≤ 1074 * 4503599627370496 := Nat.mul_le_mul_right _ (by omega)
      omega
    have hmg : mag FloatKind.f64.format ((1074 + c.log2 - 52) * FloatKind.f64.format.binade + c * 2 ^ (52 - c.log2)) = c * 2 ^ (52 - c.log2) ∧ plc FloatKind.f64.format ((1074 + c.log2 - 52) * FloatKind.f64.format.binade + c * 2 ^ (52 - c.log2)) = 1074 + c.log2 - 52 := by
      unfold mag plc
      rw [hb]
      obtain ⟨t, ht⟩ : ∃ t, c * 2 ^ (52 - c.log2) = 4503599627370496 + t := ⟨c * 2 ^ (52 - c.log2) - 4503599627370496, by omega⟩
      rw [ht]
      constructor
      · rw [if_neg (by omega)]; omega
      · omega
    have hlt := infRung_lt FloatKind.f64.format
    have hr2 : FloatKind.f64.format.read (wholeW y) = .number s (c * 2 ^ (52 - c.log2)) (-1074 + ((1074 + c.log2 - 52 : Nat) : Int)) := by
      rw [hWn, g, Nat.min_eq_left (Nat.le_of_lt hsum)]
      have := read_num FloatKind.f64.format (FloatKind.f64.format.word s ((1074 + c.log2 - 52) * FloatKind.f64.format.binade + c * 2 ^ (52 - c.log2))) (by rw [rung_word _ _ _ (by omega)]; exact hsum)
      rw [rung_word _ _ _ (by omega), sgn_word _ _ _ (by omega), hmg.1, hmg.2, hl] at this
      exact this
    rw [hr2, e1]
    show Nb .f64 (some (FloatKind.f64.format.nearest _ _ _)) 0
    refine nearest_nb .f64 _ _ _ _ (rg64 (by decide) (by decide)) ?_
    generalize hq : (-1074 + ((1074 + c.log2 - 52 : Nat) : Int)) = q
    have hqv : q = (c.log2 : Int) - 52 := by omega
    generalize hbm : min p q = b
    have hbq : b ≤ 0 := by omega
    -- the whole part at the base's place
    have w1 : c * 2 ^ (52 - c.log2) * 2 ^ (q - b).toNat = c * 2 ^ (-b).toNat := by
      rw [Nat.mul_assoc, ← Nat.pow_add]; congr 2; omega
    -- the number at the base's place: between the whole part and one more
    have w2 : c * 2 ^ (-b).toNat ≤ m * 2 ^ (p - b).toNat ∧ m * 2 ^ (p - b).toNat ≤ c * 2 ^ (-b).toNat + 2 ^ (-b).toNat := by
      by_cases hp : 0 ≤ p
      · rw [show (-p).toNat = 0 by omega, Nat.pow_zero, Nat.div_one] at hc
        have : m * 2 ^ (p - b).toNat = c * 2 ^ (-b).toNat := by
          rw [hc, Nat.mul_assoc, ← Nat.pow_add]; congr 2; omega
        rw [this]; exact ⟨Nat.le_refl _, Nat.le_add_right _ _⟩
      · rw [show p.toNat = 0 by omega, Nat.pow_zero, Nat.mul_one] at hc
        have hdm := Nat.div_add_mod m (2 ^ (-p).toNat)
        have hml := Nat.mod_lt m (Nat.two_pow_pos (-p).toNat)
        rw [← hc] at hdm
        have e5 : 2 ^ (-b).toNat = 2 ^ (-p).toNat * 2 ^ (p - b).toNat := by rw [← Nat.pow_add]; congr 1; omega
        rw [e5, ← Nat.mul_assoc, ← Nat.add_mul]
        constructor
        · exact Nat.mul_le_mul_right _ (by rw [Nat.mul_comm]; omega)
        · exact Nat.mul_le_mul_right _ (by rw [Nat.mul_comm c]; omega)
    show Le2 (signed s m (p - b).toNat + signed (!s) (c * 2 ^ (52 - c.log2)) (q - b).toNat).natAbs b 0
    rw [signed_val, signed_val, w1]
    generalize m * 2 ^ (p - b).toNat = A at *
    generalize c * 2 ^ (-b).toNat = C at *
    right
    refine ⟨(-b).toNat, by omega, ?_⟩
    generalize 2 ^ (-b).toNat = D at *
    cases s <;> simp <;> omega

end Go.Proofs.Ytdomcjiiilbajaa.Flt
