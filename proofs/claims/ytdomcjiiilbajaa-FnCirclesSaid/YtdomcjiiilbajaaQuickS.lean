/- Products, sums and greatest whole numbers of float64 words of middle size with signs, reckoned in few steps. -/
import Derived.Test.YtdomcjiiilbajaaQuick
import Derived.Test.YtdomcjiiilbajaaTenC
namespace Go.Proofs.Ytdomcjiiilbajaa
open Go.RowKit
open Ieee

theorem sign_gen (b : Bool) (s r : Nat) : (bif b then s else s + r) = s + (bif b then 0 else 0 + r) := by
  cases b
  · show s + r = s + (0 + r)
    omega
  · rfl
theorem nearF_sign (s M B : Nat) : nearF s M B = s + nearF 0 M B := by
  unfold nearF
  simp only [fz_eq]
  exact sign_gen _ _ _

/-! ### Sums of magnitudes -/

def lowP (a b : Nat) : Nat := Nat.min (rdP a) (rdP b)
def upA (a b : Nat) : Nat := rdM a <<< (rdP a - lowP a b)
theorem lowP_comm (a b : Nat) : lowP a b = lowP b a := Nat.min_comm _ _

theorem sumF_same (s : Bool) (a b : Nat) : sumF s a s b = (if s = true then 9223372036854775808 else 0) + nearF 0 (upA a b + upA b a) (lowP a b) := by
  unfold sumF
  simp only [fz_eq]
  rw [beq_self_eq_true, cond_true, nearF_sign]
  unfold upA
  rw [lowP_comm b a]
  rfl
theorem sumF_diff (s : Bool) (a b : Nat) : sumF s a (!s) b = if upA a b = upA b a then 0 else if upA b a ≤ upA a b then (if s = true then 9223372036854775808 else 0) + nearF 0 (upA a b - upA b a) (lowP a b) else (if (!s) = true then 9223372036854775808 else 0) + nearF 0 (upA b a - upA a b) (lowP a b) := by
  unfold sumF
  simp only [fz_eq]
  rw [show (s == !s) = false by cases s <;> rfl, cond_false, nearF_sign, nearF_sign (if (!s) = true then _ else _)]
  unfold upA
  rw [lowP_comm b a]
  by_cases h : rdM a <<< (rdP a - lowP a b) = rdM b <<< (rdP b - lowP a b)
  · have e : Nat.beq (rdM a <<< (rdP a - lowP a b)) (rdM b <<< (rdP b - lowP a b)) = true := by rw [Nat.beq_eq]; exact h
    rw [if_pos h]
    unfold lowP at *
    rw [e, cond_true]
  · have e : Nat.beq (rdM a <<< (rdP a - lowP a b)) (rdM b <<< (rdP b - lowP a b)) = false := by rw [Bool.eq_false_iff]; intro hh; exact h (Nat.eq_of_beq_eq_true hh)
    rw [if_neg h]
    by_cases g : rdM b <<< (rdP b - lowP a b) ≤ rdM a <<< (rdP a - lowP a b)
    · rw [if_pos g]
      have g := Nat.ble_eq_true_of_le g
      unfold lowP at *
      rw [e, cond_false, g, cond_true]
    · rw [if_neg g]
      have g : Nat.ble (rdM b <<< (rdP b - lowP a b)) (rdM a <<< (rdP a - lowP a b)) = false := by rw [Bool.eq_false_iff]; intro hh; exact g (Nat.le_of_ble_eq_true hh)
      unfold lowP at *
      rw [e, cond_false, g, cond_false]

def addM (a b : Nat) : Nat := bif Nat.ble (Nat.div b 4503599627370496) (Nat.div a 4503599627370496) then addP a b else addP b a

theorem sgn_pos (a : Nat) (h : a < 9223372036854775808) : a % 9223372036854775808 = a ∧ (a / 9223372036854775808 % 2 == 1) = false := by
  refine ⟨by omega, ?_⟩
  rw [show a / 9223372036854775808 = 0 by omega]; decide
theorem sgn_neg (a : Nat) (h : a < 9223372036854775808) : (9223372036854775808 + a) % 9223372036854775808 = a ∧ ((9223372036854775808 + a) / 9223372036854775808 % 2 == 1) = true := by
  refine ⟨by omega, ?_⟩
  rw [show (9223372036854775808 + a) / 9223372036854775808 = 1 by omega]; decide

theorem addF_gen (x y : Nat) (h1 : x % 9223372036854775808 < 9218868437227405312) (h2 : y % 9223372036854775808 < 9218868437227405312) : addF x y = sumF (x / 9223372036854775808 % 2 == 1) (x % 9223372036854775808) (y / 9223372036854775808 % 2 == 1) (y % 9223372036854775808) := by
  unfold addF
  simp only [fz_eq]
  rw [(blt_iff _ _).2 h1, (blt_iff _ _).2 h2, Bool.and_true, cond_true]

theorem addM_eq (a b : Nat) (ha : midB a = true) (hb : midB b = true) : addM a b = nearF 0 (upA a b + upA b a) (lowP a b) := by
  have ha' := (midB_iff a).1 ha
  have hb' := (midB_iff b).1 hb
  have key : ∀ a b : Nat, midB a = true → midB b = true → addP a b = nearF 0 (upA a b + upA b a) (lowP a b) := by
    intro a b ha hb
    rw [midB_iff] at ha hb
    obtain ⟨p1, p2⟩ := sgn_pos a (by omega)
    obtain ⟨q1, q2⟩ := sgn_pos b (by omega)
    rw [addP_eq, ← addF_eq, addF_gen a b (by rw [p1]; omega) (by rw [q1]; omega), p1, p2, q1, q2, sumF_same, if_neg (by decide), Nat.zero_add]
  unfold addM
  cases Nat.ble (Nat.div b 4503599627370496) (Nat.div a 4503599627370496) with
  | true => rw [cond_true]; exact key a b ha hb
  | false => rw [cond_false, key b a hb ha, Nat.add_comm, lowP_comm]

/-! ### Differences of magnitudes -/

def difM (a b : Nat) : Nat :=
  fy (Nat.sub (Nat.div a 4503599627370496) (Nat.div b 4503599627370496)) fun d =>
  fy (Nat.pow 2 d) fun h =>
  fy (Nat.sub (Nat.mul (Nat.add (Nat.mod a 4503599627370496) 4503599627370496) h) (Nat.add (Nat.mod b 4503599627370496) 4503599627370496)) fun D =>
    bif Nat.ble 1 d && Nat.ble (Nat.mul 4503599627370496 h) D then Nat.add (Nat.mul (Nat.sub (Nat.div a 4503599627370496) 1) 4503599627370496) (cutQ D h)
    else bif Nat.ble 2 d && Nat.ble (Nat.mul 2251799813685248 h) D then Nat.add (Nat.mul (Nat.sub (Nat.div a 4503599627370496) 2) 4503599627370496) (cutQ D (Nat.div h 2))
    else nearF 0 D (Nat.sub (Nat.div b 4503599627370496) 1)

theorem two_gen (D H h : Nat) (h1 : 2251799813685248 * H ≤ D) (h2 : D < 4503599627370496 * H) (h3 : H = 2 * h) (_h4 : 0 < h) : 4503599627370496 * h ≤ D ∧ D < 9007199254740992 * h ∧ D ≠ 0 := by omega

theorem difM_core (D d ea eb : Nat) (hd : ea = eb + d) (h2 : D < 9007199254740992 * 2 ^ d) (e1 : 768 ≤ eb) (e2 : ea ≤ 1278) :
    (bif Nat.ble 1 d && Nat.ble (Nat.mul 4503599627370496 (2 ^ d)) D then Nat.add (Nat.mul (Nat.sub ea 1) 4503599627370496) (cutQ D (2 ^ d))
    else bif Nat.ble 2 d && Nat.ble (Nat.mul 2251799813685248 (2 ^ d)) D then Nat.add (Nat.mul (Nat.sub ea 2) 4503599627370496) (cutQ D (Nat.div (2 ^ d) 2))
    else nearF 0 D (Nat.sub eb 1)) = nearF 0 D (eb - 1) := by
  obtain ⟨p1, p2, p3⟩ := pow52 d
  have hp := Nat.two_pow_pos d
  cases c : (Nat.ble 1 d && Nat.ble (Nat.mul 4503599627370496 (2 ^ d)) D) with
  | true =>
    rw [Bool.and_eq_true] at c
    have c1 := Nat.le_of_ble_eq_true c.1
    have c2 : 4503599627370496 * 2 ^ d ≤ D := Nat.le_of_ble_eq_true c.2
    obtain ⟨d', rfl⟩ : ∃ d', d = d' + 1 := ⟨d - 1, by omega⟩
    have hL : Nat.log2 D = d' + 1 + 52 := Flt.log2_unique (by rw [p1]; exact c2) (by rw [show d' + 1 + 52 + 1 = d' + 1 + 53 from rfl, p2]; exact h2)
    have hc : cutF D (d' + 1) ≤ 9007199254740992 := cutF_le D (d' + 1) _ h2
    have hq := cutQ_eq D d'
    rw [cond_true, nearF_at 0 D _ (d' + 1 + 52) (by omega) hL (by omega), Nat.zero_add, Nat.mul_eq, hq, Nat.add_eq, Nat.sub_eq, show eb - 1 + (d' + 1 + 52) - 52 = ea - 1 by omega, show d' + 1 + 52 - 52 = d' + 1 by omega]
    rw [show eb - 1 + (d' + 1 + 52) - 52 = ea - 1 by omega, show d' + 1 + 52 - 52 = d' + 1 by omega]
    exact fit_gen _ _ 1278 4503599627370496 9007199254740992 _ (by omega) hc (by decide)
  | false =>
    have hn : 1 ≤ d → D < 4503599627370496 * 2 ^ d := by
      intro h1
      rw [Nat.ble_eq_true_of_le h1, Bool.true_and] at c
      apply Classical.byContradiction
      intro hh
      rw [Nat.mul_eq, Nat.ble_eq_true_of_le (by omega)] at c
      cases c
    rw [cond_false]
    cases g : (Nat.ble 2 d && Nat.ble (Nat.mul 2251799813685248 (2 ^ d)) D) with
    | false => rw [cond_false, Nat.sub_eq]
    | true =>
      rw [Bool.and_eq_true] at g
      have g1 := Nat.le_of_ble_eq_true g.1
      have g2 : 2251799813685248 * 2 ^ d ≤ D := Nat.le_of_ble_eq_true g.2
      have hn := hn (by omega)
      obtain ⟨d', rfl⟩ : ∃ d', d = d' + 2 := ⟨d - 2, by omega⟩
      obtain ⟨r1, r2, r3⟩ := pow52 (d' + 1)
      have hs : (2 : Nat) ^ (d' + 2) = 2 * 2 ^ (d' + 1) := by rw [show d' + 2 = d' + 1 + 1 from rfl, Nat.pow_succ, Nat.mul_comm]
      obtain ⟨k1, k2, k3⟩ := two_gen D _ _ g2 hn hs (Nat.two_pow_pos _)
      have hL : Nat.log2 D = d' + 1 + 52 := Flt.log2_unique (by rw [r1]; exact k1) (by rw [show d' + 1 + 52 + 1 = d' + 1 + 53 from rfl, r2]; exact k2)
      have hc : cutF D (d' + 1) ≤ 9007199254740992 := cutF_le D (d' + 1) _ k2
      have hq := cutQ_eq D d'
      rw [cond_true, nearF_at 0 D _ (d' + 1 + 52) k3 hL (by omega), Nat.zero_add, Nat.mul_eq, hs, show Nat.div (2 * 2 ^ (d' + 1)) 2 = 2 ^ (d' + 1) from Nat.mul_div_cancel_left _ (by decide), hq, Nat.add_eq, Nat.sub_eq, show eb - 1 + (d' + 1 + 52) - 52 = ea - 2 by omega, show d' + 1 + 52 - 52 = d' + 1 by omega]
      rw [show eb - 1 + (d' + 1 + 52) - 52 = ea - 2 by omega, show d' + 1 + 52 - 52 = d' + 1 by omega]
      exact fit_gen _ _ 1278 4503599627370496 9007199254740992 _ (by omega) hc (by decide)

theorem difM_eq (a b : Nat) (ha : midB a = true) (hb : midB b = true) (hle : b ≤ a) : difM a b = nearF 0 (upA a b - upA b a) (lowP a b) ∧ upA b a ≤ upA a b ∧ (b < a → upA b a < upA a b) := by
  rw [midB_iff] at ha hb
  obtain ⟨a1, a2, a3, a4, a5, a6⟩ := mid_parts a ha
  obtain ⟨b1, b2, b3, b4, b5, b6⟩ := mid_parts b hb
  have hde : b / 4503599627370496 ≤ a / 4503599627370496 := Nat.div_le_div_right hle
  have hl : lowP a b = b / 4503599627370496 - 1 := by unfold lowP; rw [a4, b4]; exact Nat.min_eq_right (by omega)
  have hA : upA a b = (a % 4503599627370496 + 4503599627370496) * 2 ^ (a / 4503599627370496 - b / 4503599627370496) := by
    unfold upA; rw [hl, a3, a4, Nat.shiftLeft_eq]; congr 2; omega
  have hC : upA b a = b % 4503599627370496 + 4503599627370496 := by
    unfold upA; rw [lowP_comm, hl, b3, b4, Nat.sub_self, Nat.shiftLeft_zero]
  have hp := Nat.two_pow_pos (a / 4503599627370496 - b / 4503599627370496)
  have hm1 : a % 4503599627370496 < 4503599627370496 := Nat.mod_lt _ (by decide)
  have hm2 : b % 4503599627370496 < 4503599627370496 := Nat.mod_lt _ (by decide)
  have hlt : (a % 4503599627370496 + 4503599627370496) * 2 ^ (a / 4503599627370496 - b / 4503599627370496) < 9007199254740992 * 2 ^ (a / 4503599627370496 - b / 4503599627370496) := Nat.mul_lt_mul_of_pos_right (by omega) hp
  have hge : b % 4503599627370496 + 4503599627370496 ≤ (a % 4503599627370496 + 4503599627370496) * 2 ^ (a / 4503599627370496 - b / 4503599627370496) := by
    by_cases e : a / 4503599627370496 = b / 4503599627370496
    · rw [e, Nat.sub_self, Nat.pow_zero, Nat.mul_one]; omega
    · have : 2 ≤ 2 ^ (a / 4503599627370496 - b / 4503599627370496) := by
        have := Nat.pow_le_pow_right (show 0 < 2 by decide) (show 1 ≤ a / 4503599627370496 - b / 4503599627370496 by omega)
        exact this
      have := Nat.mul_le_mul (show 4503599627370496 ≤ a % 4503599627370496 + 4503599627370496 by omega) this
      omega
  have hgt : b < a → b % 4503599627370496 + 4503599627370496 < (a % 4503599627370496 + 4503599627370496) * 2 ^ (a / 4503599627370496 - b / 4503599627370496) := by
    intro hba
    by_cases e : a / 4503599627370496 = b / 4503599627370496
    · rw [e, Nat.sub_self, Nat.pow_zero, Nat.mul_one]; omega
    · have : 2 ≤ 2 ^ (a / 4503599627370496 - b / 4503599627370496) := by
        have := Nat.pow_le_pow_right (show 0 < 2 by decide) (show 1 ≤ a / 4503599627370496 - b / 4503599627370496 by omega)
        exact this
      have := Nat.mul_le_mul (show 4503599627370496 ≤ a % 4503599627370496 + 4503599627370496 by omega) this
      omega
  rw [hA, hC, hl]
  refine ⟨?_, hge, hgt⟩
  rw [← difM_core _ (a / 4503599627370496 - b / 4503599627370496) (a / 4503599627370496) (b / 4503599627370496) (by omega) (by omega) (by omega) (by omega)]
  unfold difM
  rw [fy_eq, fy_eq, fy_eq]
  rfl

end Go.Proofs.Ytdomcjiiilbajaa
