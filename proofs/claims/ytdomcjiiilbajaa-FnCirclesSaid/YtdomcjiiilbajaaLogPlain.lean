/- The logarithm of the program and of the reference as a plain function on words: the halving and doubling of the argument, the sum; that its value is a small number. -/
import Derived.Test.YtdomcjiiilbajaaBound
namespace Go.Proofs.Ytdomcjiiilbajaa.Flt
open Ieee
open Go.RowKit

def hal : Nat → Nat → Int → Nat × Int
  | 0, x, e => (x, e)
  | f + 1, x, e => if 4609434218613702656 ≤ x then hal f (x - 4503599627370496) (e + 1) else (x, e)
def dbl : Nat → Nat → Int → Nat × Int
  | 0, x, e => (x, e)
  | f + 1, x, e => if x < 4604930618986332160 then dbl f (x + 4503599627370496) (e - 1) else (x, e)

theorem hal_stop (f x : Nat) (e : Int) (h : ¬ 4609434218613702656 ≤ x) : hal f x e = (x, e) := by
  cases f with
  | zero => rfl
  | succ f => unfold hal; rw [if_neg h]
theorem dbl_stop (f x : Nat) (e : Int) (h : ¬ x < 4604930618986332160) : dbl f x e = (x, e) := by
  cases f with
  | zero => rfl
  | succ f => unfold dbl; rw [if_neg h]

theorem rung_small (x : Nat) (h : x < 9218868437227405312) : rung FloatKind.f64.format x = x := Nat.mod_eq_of_lt (show x < 9223372036854775808 by omega)
theorem sgn_small (x : Nat) (h : x < 9218868437227405312) : sgn FloatKind.f64.format x = false := by
  show (x / 9223372036854775808 % 2 == 1) = false
  rw [Nat.div_eq_of_lt (by omega)]; rfl
theorem inf64 : FloatKind.f64.format.infRung = 9218868437227405312 := by decide
theorem srung_small (x : Nat) (h : x < 9218868437227405312) : srung FloatKind.f64.format x = x := by
  unfold srung; rw [sgn_small x h, rung_small x h]; rfl
theorem cls_small (x : Nat) (h : x < 9218868437227405312) : cls .f64 x = some x := by
  unfold cls; rw [if_neg (by rw [rung_small x h, inf64]; omega)]

theorem ge_small (x c : Nat) (hx : x < 9218868437227405312) (hc : c < 9218868437227405312) : (FloatKind.f64.format.order x c == some .gt || FloatKind.f64.format.order x c == some .eq) = decide (c ≤ x) := by
  rw [fge (by rw [rung_small x hx, inf64]; omega) (by rw [rung_small c hc, inf64]; omega), srung_small x hx, srung_small c hc, Bool.eq_iff_iff, decide_eq_true_iff, decide_eq_true_iff]
  omega
theorem lt_small (x c : Nat) (hx : x < 9218868437227405312) (hc : c < 9218868437227405312) : (FloatKind.f64.format.order x c == some .lt) = decide (x < c) := by
  rw [flt (by rw [rung_small x hx, inf64]; omega) (by rw [rung_small c hc, inf64]; omega), srung_small x hx, srung_small c hc, Bool.eq_iff_iff, decide_eq_true_iff, decide_eq_true_iff]
  omega

/-- A normal positive word and its parts. -/
theorem normal_parts (x : Nat) (h1 : 4503599627370496 ≤ x) (h2 : x < 9218868437227405312) :
    ∃ m q : Nat, 4503599627370496 ≤ m ∧ m < 9007199254740992 ∧ x = q * 4503599627370496 + m ∧ FloatKind.f64.format.read x = .number false m (FloatKind.f64.format.leastPlace + q) := by
  have hr := rung_small x h2
  have := read_num FloatKind.f64.format x (by rw [hr, inf64]; exact h2)
  rw [hr, sgn_small x h2] at this
  refine ⟨mag FloatKind.f64.format x, plc FloatKind.f64.format x, ?_, ?_, ?_, this⟩
  · show 4503599627370496 ≤ (if x < 4503599627370496 then x else 4503599627370496 + x % 4503599627370496)
    rw [if_neg (by omega)]; omega
  · show (if x < 4503599627370496 then x else 4503599627370496 + x % 4503599627370496) < _
    rw [if_neg (by omega)]; omega
  · show x = (x / 4503599627370496 - 1) * 4503599627370496 + (if x < 4503599627370496 then x else 4503599627370496 + x % 4503599627370496)
    rw [if_neg (by omega)]; omega

theorem word_false (f : Format) (r : Nat) : f.word false r = r := rfl
theorem quo_num (d : Nat) (s : Bool) (m : Nat) (i : Int) (t : Bool) (n : Nat) (j : Int) : Datum.quotient d (.number s m i) (.number t n j) = if n = 0 then (if m = 0 then none else some (.infinity (s ^^ t))) else some (.number (s ^^ t) (2 * ((m <<< (d + n.log2 - m.log2)) / n) + ((m <<< (d + n.log2 - m.log2)) % n != 0).toNat) (i - j - (d + n.log2 - m.log2 : Nat) - 1)) := rfl

theorem read_two : FloatKind.f64.format.read 4611686018427387904 = .number false 4503599627370496 (FloatKind.f64.format.leastPlace + 1023) := by decide +kernel

theorem double (x : Nat) (h1 : 4503599627370496 ≤ x) (h2 : x < 9214364837600034816) : floatBits .mul .f64 x 4611686018427387904 = some (x + 4503599627370496) := by
  obtain ⟨m, q, m1, m2, hx, hr⟩ := normal_parts x h1 (by omega)
  show FloatKind.f64.format.mul x 4611686018427387904 = _
  unfold Format.mul
  rw [hr, read_two]
  show some (FloatKind.f64.format.nearest _ _ _) = _
  have hl : FloatKind.f64.format.leastPlace = -1074 := by decide
  have hb : FloatKind.f64.format.binade = 4503599627370496 := by decide
  have hi := inf64
  have g := nearest_grid FloatKind.f64.format (false ^^ false) (m * 4503599627370496) ((q : Int) + 1 - 52) m (q + 1) (by omega) (by rw [hb]; omega) (.inr (by rw [hb]; exact m1)) (by
    rw [show (4503599627370496 : Nat) = 2 ^ 52 from rfl]
    by_cases hq : 51 ≤ q
    · rw [show ((q : Int) + 1 - 52).toNat = q - 51 by omega, show (-((q : Int) + 1 - 52)).toNat = 0 by omega, Nat.pow_zero, Nat.mul_one, Nat.mul_assoc, ← Nat.pow_add]
      congr 2; omega
    · rw [show ((q : Int) + 1 - 52).toNat = 0 by omega, Nat.pow_zero, Nat.mul_one, Nat.mul_assoc, ← Nat.pow_add]
      congr 2; omega)
  rw [hl] at g ⊢
  rw [show (-1074 + ((q : Int) + 1 - 52)) = (-1074 + (q : Int) + (-1074 + 1023)) by omega] at g
  rw [g, hb, hi, Nat.min_eq_left (by omega), Bool.xor_false, word_false, Option.some.injEq]
  omega

theorem half (x : Nat) (h1 : 9007199254740992 ≤ x) (h2 : x < 9218868437227405312) : floatBits .quo .f64 x 4611686018427387904 = some (x - 4503599627370496) := by
  obtain ⟨m, q, m1, m2, hx, hr⟩ := normal_parts x (by omega) h2
  show FloatKind.f64.format.div x 4611686018427387904 = _
  unfold Format.div
  rw [hr, read_two]
  have hl : FloatKind.f64.format.leastPlace = -1074 := by decide
  have hb : FloatKind.f64.format.binade = 4503599627370496 := by decide
  have hf : FloatKind.f64.format.fractionBits = 52 := rfl
  have hi := inf64
  have hm : m.log2 = 52 := log2_unique (by omega) (by omega)
  have hn : (4503599627370496 : Nat).log2 = 52 := by decide
  rw [quo_num, if_neg (by decide)]
  have e1 : m <<< (FloatKind.f64.format.fractionBits + 2 + (4503599627370496 : Nat).log2 - m.log2) = m * 4 * 4503599627370496 := by
    rw [hf, hm, hn, Nat.shiftLeft_eq]; omega
  show some (FloatKind.f64.format.nearest _ _ _) = _
  rw [e1, Nat.mul_div_cancel _ (by decide), Nat.mul_mod_left, hf, hm, hn]
  have g := nearest_grid FloatKind.f64.format (false ^^ false) (2 * (m * 4) + (0 != 0 : Bool).toNat) ((q : Int) - 4) m (q - 1) (by omega) (by rw [hb]; omega) (.inr (by rw [hb]; exact m1)) (by
    show (2 * (m * 4) + 0) * _ = _
    rw [show 2 * (m * 4) + 0 = m * 2 ^ 3 by omega]
    by_cases hq : 4 ≤ q
    · rw [show (-((q : Int) - 4)).toNat = 0 by omega, Nat.pow_zero, Nat.mul_one, Nat.mul_assoc, ← Nat.pow_add]
      congr 2; omega
    · rw [show ((q : Int) - 4).toNat = 0 by omega, Nat.pow_zero, Nat.mul_one, Nat.mul_assoc, ← Nat.pow_add]
      congr 2; omega)
  rw [hl] at g ⊢
  rw [show (-1074 + ((q : Int) - 4)) = (-1074 + (q : Int) - (-1074 + 1023) - ((52 + 2 + 52 - 52 : Nat) : Int) - 1) by omega] at g
  rw [g, hb, hi, Nat.min_eq_left (by omega), Bool.xor_false, word_false, Option.some.injEq]
  omega

/-! ### The value, and that it is small -/

def logQ (u : Option Nat) : Nat → Option Nat
  | 0 => some 0
  | j + 1 => fop .add .f64 (fop .quo .f64 (some 4607182418800017408) (some (floatOfInt .f64 (25 - 2 * (j : Int))))) (fop .mul .f64 u (logQ u j))
def logS (x : Nat) : Option Nat := fop .quo .f64 (fop .sub .f64 (some x) (some 4607182418800017408)) (fop .add .f64 (some x) (some 4607182418800017408))
def logW (x : Nat) (e : Int) : Option Nat :=
  fop .add .f64 (fop .mul .f64 (some 4611686018427387904) (fop .mul .f64 (logS x) (logQ (fop .mul .f64 (logS x) (logS x)) 13))) (fop .mul .f64 (some (floatOfInt .f64 e)) (some 4604418534313441775))
def logE (x : Nat) : Nat × Int := dbl 2100 (hal 2100 x 0).1 (hal 2100 x 0).2
def logV (x : Nat) : Option Nat := logW (logE x).1 (logE x).2

/-- The difference of two numbers that are not negative. -/
theorem Nb.dif {k : FloatKind} {x y : Option Nat} {a : Int} (hx : Nb k x a) (hy : Nb k y a) (nx : Nn k x) (ny : Nn k y) (ha : Rg k.format a) : Nb k (fop .sub k x y) a := by
  obtain ⟨u, rfl, h1⟩ := hx
  obtain ⟨v, rfl, h2⟩ := hy
  obtain ⟨m, p, e1, l1⟩ := read_nb k u a ha h1
  obtain ⟨n, q, e2, l2⟩ := read_nb k v a ha h2
  rw [nx u rfl] at e1
  rw [ny v rfl] at e2
  show Nb k (k.format.sub u v) _
  unfold Format.sub; rw [e1, e2]
  show Nb k (some (k.format.nearest _ _ _)) _
  refine nearest_nb k _ _ _ _ ha ?_
  show Le2 (signed false m (p - min p q).toNat + signed true n (q - min p q).toNat).natAbs (min p q) a
  generalize hc : min p q = c
  by_cases h0 : (signed false m (p - c).toNat + signed true n (q - c).toNat).natAbs = 0
  · exact .inl h0
  · have hce : c ≤ a := by
      apply Classical.byContradiction
      intro hgt
      have hm : m = 0 := by
        rcases l1 with h | ⟨x, h1, _⟩
        · exact h
        · omega
      have hn : n = 0 := by
        rcases l2 with h | ⟨x, h1, _⟩
        · exact h
        · omega
      apply h0
      rw [hm, hn, signed_val, signed_val]
      simp
    right
    refine ⟨(a - c).toNat, by omega, ?_⟩
    have h1 := l1.shift (c := c) (by omega) hce
    have h2 := l2.shift (c := c) (by omega) hce
    rw [signed_val, signed_val]
    simp only [Bool.false_eq_true, if_false, if_true]
    omega

theorem nn_small (x : Nat) (h : x < 9218868437227405312) : Nn .f64 (some x) := fun b hb => by cases hb; exact sgn_small x h
theorem nb_small (x : Nat) (e : Int) (h : x < 9218868437227405312) (h' : x ≤ pw FloatKind.f64.format e) : Nb .f64 (some x) e := ⟨x, rfl, by rw [rung_small x h]; exact h'⟩
theorem lb_small (x : Nat) (e : Int) (h : x < 9218868437227405312) (h' : pw FloatKind.f64.format e ≤ x) : Lb .f64 (some x) e := ⟨x, rfl, by rw [rung_small x h]; exact h', by rw [rung_small x h, inf64]; omega⟩

theorem kf_lb (j : Nat) (hj : j < 13) : Lb .f64 (some (floatOfInt .f64 (25 - 2 * (j : Int)))) 0 := by
  have h : ∀ j ∈ List.range 13, pw FloatKind.f64.format 0 ≤ rung FloatKind.f64.format (floatOfInt .f64 (25 - 2 * (j : Int))) ∧ rung FloatKind.f64.format (floatOfInt .f64 (25 - 2 * (j : Int))) ≤ FloatKind.f64.format.infRung := by decide +kernel
  exact ⟨_, rfl, h j (List.mem_range.2 hj)⟩

theorem int_nb (e : Int) (h : e.natAbs ≤ 2 ^ 12) : Nb .f64 (some (floatOfInt .f64 e)) 12 :=
  nearest_nb .f64 _ _ _ _ (rg64 (by decide) (by decide)) (.inr ⟨12, by decide, h⟩)

theorem logQ_nb (u : Option Nat) (hu : Nb .f64 u 2) : ∀ j, j ≤ 13 → Nb .f64 (logQ u j) (3 * j)
  | 0, _ => nb_small 0 _ (by decide) (by decide)
  | j + 1, h => by
    have ih := logQ_nb u hu j (by omega)
    have h1 : Nb .f64 (fop .quo .f64 (some 4607182418800017408) (some (floatOfInt .f64 (25 - 2 * (j : Int))))) (0 - 0) :=
      (nb_small _ _ (by decide) (by decide +kernel)).div (kf_lb j (by omega)) (rg64 (by decide) (by decide)) (by decide) (rg64 (by decide) (by decide))
    have h2 := hu.mul ih (rg64 (by decide) (by decide)) (rg64 (by omega) (by omega)) (rg64 (by omega) (by omega))
    have h3 := (h1.mono (show (0 - 0 : Int) ≤ 2 + 3 * j by omega)).add h2 (rg64 (by omega) (by omega)) (rg64 (by omega) (by omega))
    exact h3.mono (by omega)

theorem logS_nb (x : Nat) (h2 : x < 4609434218613702656) : Nb .f64 (logS x) 1 := by
  have hp : pw FloatKind.f64.format 1 = 4611686018427387904 := by decide +kernel
  have hp0 : pw FloatKind.f64.format 0 = 4607182418800017408 := by decide +kernel
  have nx := nb_small x 1 (by omega) (by omega)
  have n1 := nb_small 4607182418800017408 0 (by decide) (by omega)
  have a := nx.dif (n1.mono (by decide)) (nn_small x (by omega)) (nn_small _ (by decide)) (rg64 (by decide) (by decide))
  have b := add_lb nx n1 (rg64 (by decide) (by decide)) (rg64 (by decide) (by decide)) (nn_small x (by omega)) (nn_small _ (by decide)) (lb_small _ 0 (by decide) (by omega)) (rg64 (by decide) (by decide))
  have := a.div b (rg64 (by decide) (by decide)) (by decide) (rg64 (by decide) (by decide))
  exact this

theorem logW_nb (x : Nat) (e : Int) (h2 : x < 4609434218613702656) (he : e.natAbs ≤ 2 ^ 12) : Nb .f64 (logW x e) 42 := by
  have hs := logS_nb x h2
  have hu := hs.mul hs (rg64 (by decide) (by decide)) (rg64 (by decide) (by decide)) (rg64 (by decide) (by decide))
  have hq := logQ_nb _ hu 13 (by decide)
  have h3 := hs.mul hq (rg64 (by decide) (by decide)) (rg64 (by decide) (by decide)) (rg64 (by decide) (by decide))
  have h4 := (nb_small 4611686018427387904 1 (by decide) (by decide +kernel)).mul h3 (rg64 (by decide) (by decide)) (rg64 (by decide) (by decide)) (rg64 (by decide) (by decide))
  have h5 := (int_nb e he).mul (nb_small 4604418534313441775 0 (by decide) (by decide +kernel)) (rg64 (by decide) (by decide)) (rg64 (by decide) (by decide)) (rg64 (by decide) (by decide))
  have h6 := h4.add (h5.mono (show (12 + 0 : Int) ≤ 1 + (1 + 3 * ((13 : Nat) : Int)) by decide)) (rg64 (by decide) (by decide)) (rg64 (by decide) (by decide))
  exact h6.mono (by decide)

/-! ### The loops end -/

theorem hal_spec (f : Nat) : ∀ (x : Nat) (e : Int), 3936146074321813504 ≤ x → x < 4609434218613702656 + f * 4503599627370496 → (hal f x e).1 < 4609434218613702656 ∧ 3936146074321813504 ≤ (hal f x e).1 ∧ e ≤ (hal f x e).2 ∧ (hal f x e).2 ≤ e + f := by
  induction f with
  | zero => intro x e h1 h2; unfold hal; refine ⟨by omega, h1, by omega, by omega⟩
  | succ f ih =>
    intro x e h1 h2
    by_cases h : 4609434218613702656 ≤ x
    · unfold hal; rw [if_pos h]
      have := ih (x - 4503599627370496) (e + 1) (by omega) (by omega)
      omega
    · rw [hal_stop _ _ _ h]; exact ⟨by omega, h1, by omega, by omega⟩

theorem dbl_spec (f : Nat) : ∀ (x : Nat) (e : Int), x < 4609434218613702656 → 4604930618986332160 ≤ x + f * 4503599627370496 → (dbl f x e).1 < 4609434218613702656 ∧ 4604930618986332160 ≤ (dbl f x e).1 ∧ e - f ≤ (dbl f x e).2 ∧ (dbl f x e).2 ≤ e := by
  induction f with
  | zero => intro x e h1 h2; unfold dbl; refine ⟨h1, by omega, by omega, by omega⟩
  | succ f ih =>
    intro x e h1 h2
    by_cases h : x < 4604930618986332160
    · unfold dbl; rw [if_pos h]
      have := ih (x + 4503599627370496) (e - 1) (by omega) (by omega)
      omega
    · rw [dbl_stop _ _ _ h]; exact ⟨h1, by omega, by omega, by omega⟩

theorem logV_nb (x : Nat) (h1 : 3936146074321813504 ≤ x) (h2 : x < 9218868437227405312) : Nb .f64 (logV x) 42 := by
  obtain ⟨a1, a2, a3, a4⟩ := hal_spec 2100 x 0 h1 (by omega)
  obtain ⟨b1, b2, b3, b4⟩ := dbl_spec 2100 (hal 2100 x 0).1 (hal 2100 x 0).2 a1 (by omega)
  exact logW_nb _ _ b1 (by unfold logE; omega)

/-- The word of a positive finite float32, widened, lies where the logarithm's loops end. -/
theorem W_pos (x : Nat) (h0 : 0 < x) (h : x < 2139095040) : 3936146074321813504 ≤ W x ∧ W x < 9218868437227405312 := by
  have hr : rung FloatKind.f32.format x = x := Nat.mod_eq_of_lt (show x < 2147483648 by omega)
  have hi : FloatKind.f32.format.infRung = 2139095040 := by decide
  have hs : sgn FloatKind.f32.format x = false := by
    show (x / 2147483648 % 2 == 1) = false
    rw [Nat.div_eq_of_lt (by omega)]; rfl
  have hw := W_rung x (by omega)
  have hwi := W_inf_iff x (by omega)
  have hws := sgn_W x (by omega)
  have hwl := W_lt x
  rw [hs] at hws
  have e : W x = rung FloatKind.f64.format (W x) := by
    have h1 : (W x / 9223372036854775808 % 2 == 1) = false := hws
    have h2 : rung FloatKind.f64.format (W x) = W x % 9223372036854775808 := rfl
    rw [beq_eq_false_iff_ne] at h1
    omega
  have h1 : W 1 = 3936146074321813504 := by decide +kernel
  have hl := W_lt_iff x 1 (by omega) (by decide)
  have hr1 : rung FloatKind.f32.format 1 = 1 := by decide
  have hr1' : rung FloatKind.f64.format (W 1) = 3936146074321813504 := by decide +kernel
  rw [inf64] at hw hwi
  omega

end Go.Proofs.Ytdomcjiiilbajaa.Flt
