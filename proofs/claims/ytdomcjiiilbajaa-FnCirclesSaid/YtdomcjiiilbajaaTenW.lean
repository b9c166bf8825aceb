/- The words of 64ths: float32, float64, their products, and what the logarithm's loops make of them. -/
import Derived.Test.YtdomcjiiilbajaaTenQ
namespace Go.Proofs.Ytdomcjiiilbajaa
open Go.RowKit
open Ieee
open Flt (hal dbl logE)

def nu (k : Nat) : Nat := k * 2 ^ (23 - Nat.log2 k)
def w32 (k : Nat) : Nat := (120 + Nat.log2 k) * 8388608 + nu k
def mu (k : Nat) : Nat := k * 2 ^ (52 - Nat.log2 k)

theorem log2_small (k : Nat) (h : k < 65536) : Nat.log2 k ≤ 15 := by
  by_cases h0 : k = 0
  · subst h0; decide
  · apply Classical.byContradiction
    intro hh
    have a := Flt.log2_lo k h0
    have b := Nat.pow_le_pow_right (show 0 < 2 by decide) (show 16 ≤ k.log2 by omega)
    omega

theorem nu_bounds (k : Nat) (h0 : k ≠ 0) (h : k < 65536) : 8388608 ≤ nu k ∧ nu k < 16777216 := by
  have hl := log2_small k h
  have a := Nat.mul_le_mul_right (2 ^ (23 - k.log2)) (Flt.log2_lo k h0)
  have b := Nat.mul_lt_mul_of_pos_right (Flt.log2_hi k) (Nat.two_pow_pos (23 - k.log2))
  rw [← Nat.pow_add, show k.log2 + (23 - k.log2) = 23 by omega] at a
  rw [← Nat.pow_add, show k.log2 + 1 + (23 - k.log2) = 24 by omega] at b
  exact ⟨a, b⟩
theorem mu_nu (k : Nat) (h : k < 65536) : mu k = nu k * 536870912 := by
  have hl := log2_small k h
  unfold mu nu
  rw [Nat.mul_assoc, show 536870912 = 2 ^ 29 by decide, ← Nat.pow_add]
  congr 2; omega
theorem mu_bounds (k : Nat) (h0 : k ≠ 0) (h : k < 65536) : 4503599627370496 ≤ mu k ∧ mu k < 9007199254740992 := by
  have := nu_bounds k h0 h
  rw [mu_nu k h]; omega

theorem w32_lt (k : Nat) (h0 : k ≠ 0) (h : k < 65536) : w32 k ≠ 0 ∧ w32 k < 2139095040 := by
  have := nu_bounds k h0 h
  have := log2_small k h
  unfold w32
  omega

theorem read_w32 (k : Nat) (h0 : k ≠ 0) (h : k < 65536) : FloatKind.f32.format.read (w32 k) = .number false (nu k) (FloatKind.f32.format.leastPlace + ((120 + k.log2 : Nat) : Int)) := by
  obtain ⟨a, b⟩ := nu_bounds k h0 h
  have hl := log2_small k h
  obtain ⟨c1, c2⟩ := w32_lt k h0 h
  have hr : Flt.rung FloatKind.f32.format (w32 k) = w32 k := Nat.mod_eq_of_lt (show w32 k < 2147483648 by omega)
  have hi : FloatKind.f32.format.infRung = 2139095040 := by decide
  have := Flt.read_num FloatKind.f32.format (w32 k) (by rw [hr, hi]; exact c2)
  rw [hr] at this
  have hs : Flt.sgn FloatKind.f32.format (w32 k) = false := by
    show (w32 k / 2147483648 % 2 == 1) = false
    rw [Nat.div_eq_of_lt (by omega)]; rfl
  have hb : FloatKind.f32.format.binade = 8388608 := by decide
  have hm : Flt.mag FloatKind.f32.format (w32 k) = nu k := by
    unfold Flt.mag; rw [hb]
    unfold w32 at *
    rw [if_neg (by omega)]; omega
  have hp : Flt.plc FloatKind.f32.format (w32 k) = 120 + k.log2 := by
    unfold Flt.plc; rw [hb]
    unfold w32 at *
    omega
  rw [this, hs, hm, hp]

theorem W_w32 (k : Nat) (h0 : k ≠ 0) (h : k < 65536) : Flt.W (w32 k) = (1016 + k.log2) * 4503599627370496 + mu k := by
  obtain ⟨a, b⟩ := mu_bounds k h0 h
  have hl := log2_small k h
  unfold Flt.W
  rw [show FloatKind.f32.decode (w32 k) = _ from read_w32 k h0 h]
  show FloatKind.f64.format.nearest false (nu k) _ = _
  have hb : FloatKind.f64.format.binade = 4503599627370496 := by decide
  have hl32 : FloatKind.f32.format.leastPlace = -149 := by decide
  have g := Flt.nearest_grid FloatKind.f64.format false (nu k) ((1045 + k.log2 : Nat) : Int) (mu k) (1016 + k.log2) (by omega) (by rw [hb]; omega) (.inr (by rw [hb]; exact a)) (by
    rw [mu_nu k h, Int.toNat_natCast, show (-((1045 + k.log2 : Nat) : Int)).toNat = 0 by omega, Nat.pow_zero, Nat.mul_one, Nat.mul_assoc, show 536870912 = 2 ^ 29 by decide, ← Nat.pow_add]
    congr 2; omega)
  rw [lp64] at g
  rw [hl32, show (-149 + ((120 + k.log2 : Nat) : Int)) = -1074 + ((1045 + k.log2 : Nat) : Int) by omega, g, hb, Flt.inf64, Nat.min_eq_left (by omega), Flt.word_false]

/-! ### The loops -/

theorem hal_run (n : Nat) : ∀ (f X : Nat) (e : Int), n ≤ f → 4604930618986332160 ≤ X → X < 4609434218613702656 → hal f (X + n * 4503599627370496) e = (X, e + n) := by
  induction n with
  | zero => intro f X e _ h1 h2; rw [Nat.zero_mul, Nat.add_zero, Flt.hal_stop _ _ _ (by omega)]; simp
  | succ n ih =>
    intro f X e hf h1 h2
    obtain ⟨g, rfl⟩ : ∃ g, f = g + 1 := ⟨f - 1, by omega⟩
    unfold hal
    rw [if_pos (by omega), show X + (n + 1) * 4503599627370496 - 4503599627370496 = X + n * 4503599627370496 by omega, ih g X _ (by omega) h1 h2]
    congr 1; omega
theorem dbl_run (n : Nat) : ∀ (f x : Nat) (e : Int), n ≤ f → 4604930618986332160 ≤ x + n * 4503599627370496 → x + n * 4503599627370496 < 4609434218613702656 → dbl f x e = (x + n * 4503599627370496, e - n) := by
  induction n with
  | zero => intro f x e _ h1 h2; rw [Flt.dbl_stop _ _ _ (by omega)]; simp
  | succ n ih =>
    intro f x e hf h1 h2
    obtain ⟨g, rfl⟩ : ∃ g, f = g + 1 := ⟨f - 1, by omega⟩
    unfold dbl
    rw [if_pos (by omega), ih g _ _ (by omega) (by omega) (by omega)]
    congr 1
    · omega
    · omega
theorem logE_run (x X n : Nat) (hn : n ≤ 40) (h1 : 4604930618986332160 ≤ X) (h2 : X < 4609434218613702656) (h : x + 36028797018963968 = X + n * 4503599627370496) : logE x = (X, (n : Int) - 8) := by
  unfold logE
  by_cases c : 8 ≤ n
  · have e : x = X + (n - 8) * 4503599627370496 := by omega
    rw [e, hal_run (n - 8) 2100 X 0 (by omega) h1 h2, Flt.dbl_stop _ _ _ (by omega)]
    congr 1; omega
  · rw [Flt.hal_stop 2100 x 0 (by omega), dbl_run (8 - n) 2100 x 0 (by omega) (by omega) (by omega)]
    congr 1
    · omega
    · omega

/-- the word between 3 / 4 and 3 / 2 to which the loops come -/
def bigB (m : Nat) : Bool := Nat.ble 6755399441055744 m
def baseW (m : Nat) : Nat := bif bigB m then Nat.add 4598175219545276416 m else Nat.add 4602678819172646912 m

theorem logE_w32 (k : Nat) (h0 : k ≠ 0) (h : k < 65536) : logE (Flt.W (w32 k)) = (baseW (mu k), ((k.log2 + 2 + (bigB (mu k)).toNat : Nat) : Int) - 8) := by
  obtain ⟨a, b⟩ := mu_bounds k h0 h
  have hl := log2_small k h
  rw [W_w32 k h0 h]
  unfold baseW
  cases c : bigB (mu k) with
  | true =>
    have c := Nat.le_of_ble_eq_true c
    exact logE_run _ _ _ (by rw [Bool.toNat_true]; omega) (by rw [cond_true, Nat.add_eq]; omega) (by rw [cond_true, Nat.add_eq]; omega) (by rw [cond_true, Nat.add_eq, Bool.toNat_true]; omega)
  | false =>
    have c : ¬ 6755399441055744 ≤ mu k := fun hh => by rw [show bigB (mu k) = true from Nat.ble_eq_true_of_le hh] at c; cases c
    exact logE_run _ _ _ (by rw [Bool.toNat_false]; omega) (by rw [cond_false, Nat.add_eq]; omega) (by rw [cond_false, Nat.add_eq]; omega) (by rw [cond_false, Nat.add_eq, Bool.toNat_false]; omega)

theorem tenI_w32 (k : Nat) (h0 : k ≠ 0) (h : k < 65536) : tenI (w32 k) = lI (lT (lQ (baseW (mu k))) (eW.getD (k.log2 + 2 + (bigB (mu k)).toNat) 0)) := by
  have hl := log2_small k h
  have hb : (bigB (mu k)).toNat ≤ 1 := Bool.toNat_le _
  obtain ⟨c1, c2⟩ := w32_lt k h0 h
  exact tenI_lT (w32 k) _ _ (by omega) c1 c2 (logE_w32 k h0 h)

/-! ### Products -/

theorem log2_8 (a : Nat) (h : a ≠ 0) : Nat.log2 (8 * a) = Nat.log2 a + 3 := by
  have := Flt.log2_lo a h
  have := Flt.log2_hi a
  refine Flt.log2_unique ?_ ?_
  · rw [Nat.pow_add, Nat.mul_comm]; omega
  · rw [show a.log2 + 3 + 1 = (a.log2 + 1) + 3 by omega, Nat.pow_add, Nat.mul_comm]; omega

theorem shuffle (c a b p q r : Nat) : c * a * p * (c * b * q) * r = (a * b) * ((c * c) * (p * (q * r))) := by
  ac_rfl

theorem mul_w32 (a b : Nat) (ha : a ≠ 0) (hb : b ≠ 0) (ha' : a ≤ 200) (hb' : b ≤ 200) : floatBits .mul .f32 (w32 (8 * a)) (w32 (8 * b)) = some (w32 (a * b)) := by
  have hab : a * b ≠ 0 := Nat.mul_ne_zero ha hb
  have hab' : a * b ≤ 40000 := Nat.mul_le_mul ha' hb'
  obtain ⟨k1, k2⟩ := nu_bounds (a * b) hab (by omega)
  have l1 := log2_small (8 * a) (by omega)
  have l2 := log2_small (8 * b) (by omega)
  have l3 := log2_small (a * b) (by omega)
  show FloatKind.f32.format.mul _ _ = _
  rw [mul_gen _ (read_w32 (8 * a) (by omega) (by omega)) (read_w32 (8 * b) (by omega) (by omega))]
  have hbin : FloatKind.f32.format.binade = 8388608 := by decide
  have hl32 : FloatKind.f32.format.leastPlace = -149 := by decide
  have hi : FloatKind.f32.format.infRung = 2139095040 := by decide
  have g := Flt.nearest_grid FloatKind.f32.format (false ^^ false) (nu (8 * a) * nu (8 * b)) (((8 * a).log2 + (8 * b).log2 + 91 : Nat) : Int) (nu (a * b)) (120 + (a * b).log2) (by omega) (by rw [hbin]; omega) (.inr (by rw [hbin]; exact k1)) (by
    rw [Int.toNat_natCast, show (-(((8 * a).log2 + (8 * b).log2 + 91 : Nat) : Int)).toNat = 0 by omega, Nat.pow_zero, Nat.mul_one]
    unfold nu
    rw [shuffle 8 a b, ← Nat.pow_add, ← Nat.pow_add, show 8 * 8 = 2 ^ 6 by decide, ← Nat.pow_add, Nat.mul_assoc (a * b), ← Nat.pow_add]
    congr 2; omega)
  rw [hl32] at g ⊢
  rw [show (-149 + ((120 + (8 * a).log2 : Nat) : Int) + (-149 + ((120 + (8 * b).log2 : Nat) : Int))) = -149 + (((8 * a).log2 + (8 * b).log2 + 91 : Nat) : Int) by omega, g, hbin, hi]
  have hw : w32 (a * b) = (120 + (a * b).log2) * 8388608 + nu (a * b) := rfl
  obtain ⟨c1, c2⟩ := w32_lt (a * b) hab (by omega)
  rw [← hw, Nat.min_eq_left (by omega)]
  rfl

end Go.Proofs.Ytdomcjiiilbajaa
