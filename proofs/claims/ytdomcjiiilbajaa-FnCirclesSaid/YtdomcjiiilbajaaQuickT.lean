/- Sums and products of float64 words with signs, and their greatest whole numbers, reckoned in few steps. -/
import Derived.Test.YtdomcjiiilbajaaQuickS
namespace Go.Proofs.Ytdomcjiiilbajaa
open Go.RowKit
open Ieee

def magS (a : Nat) : Nat := bif Nat.ble 9223372036854775808 a then Nat.sub a 9223372036854775808 else a
def negS (a : Nat) : Bool := Nat.ble 9223372036854775808 a

/-- the sum of words of signs sa, sb and magnitudes a, b -/
def addS4 (sa : Bool) (a : Nat) (sb : Bool) (b : Nat) : Nat :=
  bif sa then
    bif sb then Nat.add 9223372036854775808 (addM a b)
    else bif Nat.blt b a then Nat.add 9223372036854775808 (difM a b) else difM b a
  else
    bif sb then bif Nat.blt a b then Nat.add 9223372036854775808 (difM b a) else difM a b
    else addM a b
def addS0 (x y : Nat) : Nat := fy (magS x) fun a => fy (magS y) fun b => bif midB a && midB b then addS4 (negS x) a (negS y) b else addF x y

theorem magS_cases (x : Nat) (_h : midB (magS x) = true) : (negS x = false ∧ x = magS x) ∨ (negS x = true ∧ x = 9223372036854775808 + magS x) := by
  unfold negS magS
  cases c : Nat.ble 9223372036854775808 x with
  | false => exact .inl ⟨rfl, rfl⟩
  | true =>
    have := Nat.le_of_ble_eq_true c
    refine .inr ⟨rfl, ?_⟩
    rw [cond_true, Nat.sub_eq]; omega

theorem addS4_eq (sa sb : Bool) (a b : Nat) (ha : midB a = true) (hb : midB b = true) : addS4 sa a sb b = sumF sa a sb b := by
  have comm := lowP_comm a b
  unfold addS4
  cases sa <;> cases sb
  · rw [cond_false, cond_false, sumF_same, if_neg (by decide), Nat.zero_add, addM_eq a b ha hb]
  · rw [cond_false, cond_true]
    have := sumF_diff false a b
    rw [Bool.not_false] at this
    rw [this]
    by_cases c : a < b
    · obtain ⟨d1, d2, d3⟩ := difM_eq b a hb ha (Nat.le_of_lt c)
      have d3 := d3 c
      rw [(blt_iff _ _).2 c, cond_true, d1, Nat.add_eq, if_neg (show ¬ upA a b = upA b a by omega), if_neg (show ¬ upA b a ≤ upA a b by omega), if_pos rfl, ← comm]
    · obtain ⟨d1, d2, d3⟩ := difM_eq a b ha hb (by omega)
      have hc : Nat.blt a b = false := by rw [Bool.eq_false_iff]; intro hh; exact c ((blt_iff _ _).1 hh)
      rw [hc, cond_false, d1, if_neg (show ¬ false = true by decide), Nat.zero_add]
      by_cases e : upA a b = upA b a
      · rw [if_pos e, e, Nat.sub_self]; rfl
      · rw [if_neg e, if_pos d2]
  · rw [cond_true, cond_false]
    have := sumF_diff true a b
    rw [Bool.not_true] at this
    rw [this]
    by_cases c : b < a
    · obtain ⟨d1, d2, d3⟩ := difM_eq a b ha hb (Nat.le_of_lt c)
      have d3 := d3 c
      rw [(blt_iff _ _).2 c, cond_true, d1, Nat.add_eq, if_neg (show ¬ upA a b = upA b a by omega), if_pos d2, if_pos rfl]
    · obtain ⟨d1, d2, d3⟩ := difM_eq b a hb ha (by omega)
      have hc : Nat.blt b a = false := by rw [Bool.eq_false_iff]; intro hh; exact c ((blt_iff _ _).1 hh)
      rw [hc, cond_false, d1, if_neg (show ¬ false = true by decide), Nat.zero_add, ← comm]
      by_cases e : upA a b = upA b a
      · rw [if_pos e, e, Nat.sub_self]; rfl
      · rw [if_neg e, if_neg (by omega)]
  · rw [cond_true, cond_true, sumF_same, if_pos rfl, addM_eq a b ha hb, Nat.add_eq]


theorem addS0_eq (x y : Nat) : addS0 x y = oF .add x y := by
  rw [← addF_eq]
  unfold addS0
  rw [fy_eq, fy_eq]
  cases h : (midB (magS x) && midB (magS y)) with
  | false => rw [cond_false]
  | true =>
    rw [Bool.and_eq_true] at h
    rw [cond_true, addS4_eq _ _ _ _ h.1 h.2]
    have a := (midB_iff _).1 h.1
    have b := (midB_iff _).1 h.2
    obtain ⟨p1, p2⟩ := sgn_pos (magS x) (by omega)
    obtain ⟨p3, p4⟩ := sgn_neg (magS x) (by omega)
    obtain ⟨q1, q2⟩ := sgn_pos (magS y) (by omega)
    obtain ⟨q3, q4⟩ := sgn_neg (magS y) (by omega)
    have hx : x % 9223372036854775808 = magS x ∧ (x / 9223372036854775808 % 2 == 1) = negS x := by
      rcases magS_cases x h.1 with ⟨e1, e2⟩ | ⟨e1, e2⟩
      · exact ⟨(congrArg (fun t => t % 9223372036854775808) e2).trans p1, ((congrArg (fun t => t / 9223372036854775808 % 2 == 1) e2).trans p2).trans e1.symm⟩
      · exact ⟨(congrArg (fun t => t % 9223372036854775808) e2).trans p3, ((congrArg (fun t => t / 9223372036854775808 % 2 == 1) e2).trans p4).trans e1.symm⟩
    have hy : y % 9223372036854775808 = magS y ∧ (y / 9223372036854775808 % 2 == 1) = negS y := by
      rcases magS_cases y h.2 with ⟨e1, e2⟩ | ⟨e1, e2⟩
      · exact ⟨(congrArg (fun t => t % 9223372036854775808) e2).trans q1, ((congrArg (fun t => t / 9223372036854775808 % 2 == 1) e2).trans q2).trans e1.symm⟩
      · exact ⟨(congrArg (fun t => t % 9223372036854775808) e2).trans q3, ((congrArg (fun t => t / 9223372036854775808 % 2 == 1) e2).trans q4).trans e1.symm⟩
    rw [addF_gen x y (by rw [hx.1]; omega) (by rw [hy.1]; omega), hx.1, hx.2, hy.1, hy.2]

/-! ### Sums with zero -/

theorem cutF_exact (m p : Nat) : cutF (m * 2 ^ p) p = m := by
  unfold cutF
  simp only [fz_eq]
  have hp := Nat.two_pow_pos p
  rw [Nat.mul_div_cancel _ hp, Nat.mul_mod_left, Nat.mul_zero]
  have e1 : Nat.blt (2 ^ p) 0 = false := by rw [Bool.eq_false_iff]; intro hh; have := (blt_iff _ _).1 hh; omega
  have e2 : Nat.beq (2 ^ p) 0 = false := by rw [Bool.eq_false_iff]; intro hh; have := Nat.eq_of_beq_eq_true hh; omega
  rw [e1, e2, cond_false, cond_false]

theorem join_gen (c q r a : Nat) (h : c * q + r = a) (hq : 1 ≤ q) : (q - 1) * c + (r + c) = a := by
  obtain ⟨p, rfl⟩ : ∃ p, q = p + 1 := ⟨q - 1, by omega⟩
  rw [← h, Nat.mul_add, Nat.mul_one, Nat.add_sub_cancel, Nat.mul_comm]
  omega

theorem nearF_exact (a : Nat) (h : midB a = true) : nearF 0 (rdM a * 2 ^ rdP a) 0 = a := by
  have ha := (midB_iff a).1 h
  obtain ⟨a1, a2, a3, a4, a5, a6⟩ := mid_parts a ha
  have hm : a % 4503599627370496 < 4503599627370496 := Nat.mod_lt _ (by decide)
  have hd := Nat.div_add_mod a 4503599627370496
  rw [a3, a4]
  generalize a / 4503599627370496 = q at *
  generalize a % 4503599627370496 = r at *
  obtain ⟨p1, p2, p3⟩ := pow52 (q - 1)
  have hp := Nat.two_pow_pos (q - 1)
  have b1 := Nat.mul_le_mul_right (2 ^ (q - 1)) (show 4503599627370496 ≤ r + 4503599627370496 by omega)
  have b2 := Nat.mul_lt_mul_of_pos_right (show r + 4503599627370496 < 9007199254740992 by omega) hp
  have hL : Nat.log2 ((r + 4503599627370496) * 2 ^ (q - 1)) = q - 1 + 52 := Flt.log2_unique (by rw [p1]; exact b1) (by rw [show q - 1 + 52 + 1 = q - 1 + 53 by omega, p2]; exact b2)
  have hc := cutF_exact (r + 4503599627370496) (q - 1)
  rw [nearF_at 0 _ 0 (q - 1 + 52) (by omega) hL (by omega)]
  · rw [show 0 + (q - 1 + 52) - 52 = q - 1 by omega, show q - 1 + 52 - 52 = q - 1 by omega, hc, Nat.zero_add]
    exact join_gen _ q r a hd (by omega)
  · rw [show 0 + (q - 1 + 52) - 52 = q - 1 by omega, show q - 1 + 52 - 52 = q - 1 by omega, hc, join_gen _ q r a hd (by omega)]
    omega

theorem up_zero (a : Nat) : upA a 0 = rdM a * 2 ^ rdP a ∧ upA 0 a = 0 ∧ lowP a 0 = 0 ∧ lowP 0 a = 0 := by
  have h0 : rdM 0 = 0 := by decide
  have h1 : rdP 0 = 0 := by decide
  unfold upA lowP
  rw [h0, h1, Nat.shiftLeft_eq, Nat.shiftLeft_eq, Nat.zero_mul]
  refine ⟨?_, rfl, Nat.min_zero _, Nat.zero_min _⟩
  rw [show Nat.min (rdP a) 0 = 0 from Nat.min_zero _, Nat.sub_zero]

theorem sum_zero (s : Bool) (a : Nat) (h : midB a = true) : sumF s a false 0 = (if s = true then 9223372036854775808 else 0) + a ∧ sumF false 0 s a = (if s = true then 9223372036854775808 else 0) + a := by
  obtain ⟨u1, u2, u3, u4⟩ := up_zero a
  have hn := nearF_exact a h
  have hpos : 0 < rdM a * 2 ^ rdP a := by
    have ha := (midB_iff a).1 h
    obtain ⟨a1, a2, a3, a4, a5, a6⟩ := mid_parts a ha
    exact Nat.mul_pos (by rw [a3]; omega) (Nat.two_pow_pos _)
  cases s with
  | false =>
    rw [sumF_same, sumF_same, u1, u2, u3, u4, Nat.add_zero, Nat.zero_add (rdM a * 2 ^ rdP a), hn]
    exact ⟨rfl, rfl⟩
  | true =>
    have d1 := sumF_diff true a 0
    have d2 := sumF_diff false 0 a
    rw [Bool.not_true] at d1
    rw [Bool.not_false] at d2
    refine ⟨?_, ?_⟩
    · rw [d1, u1, u2, u3, if_neg (by omega), if_pos (Nat.zero_le _), Nat.sub_zero, hn]
    · rw [d2, u1, u2, u4, if_neg (by omega), if_neg (by omega), Nat.sub_zero, hn]

theorem mag_parts (x : Nat) (h : midB (magS x) = true) : x % 9223372036854775808 = magS x ∧ (x / 9223372036854775808 % 2 == 1) = negS x ∧ x = (if negS x = true then 9223372036854775808 else 0) + magS x := by
  have a := (midB_iff _).1 h
  obtain ⟨p1, p2⟩ := sgn_pos (magS x) (by omega)
  obtain ⟨p3, p4⟩ := sgn_neg (magS x) (by omega)
  rcases magS_cases x h with ⟨e1, e2⟩ | ⟨e1, e2⟩
  · exact ⟨(congrArg (fun t => t % 9223372036854775808) e2).trans p1, ((congrArg (fun t => t / 9223372036854775808 % 2 == 1) e2).trans p2).trans e1.symm, by rw [e1, if_neg (by decide), Nat.zero_add]; exact e2⟩
  · exact ⟨(congrArg (fun t => t % 9223372036854775808) e2).trans p3, ((congrArg (fun t => t / 9223372036854775808 % 2 == 1) e2).trans p4).trans e1.symm, by rw [e1, if_pos rfl]; exact e2⟩

theorem add_zero_mid (x : Nat) (h : midB (magS x) = true) : oF .add x 0 = x ∧ oF .add 0 x = x := by
  obtain ⟨p1, p2, p3⟩ := mag_parts x h
  have a := (midB_iff _).1 h
  obtain ⟨s1, s2⟩ := sum_zero (negS x) (magS x) h
  rw [← addF_eq, ← addF_eq, addF_gen x 0 (by rw [p1]; omega) (by decide), addF_gen 0 x (by decide) (by rw [p1]; omega), p1, p2]
  exact ⟨s1.trans p3.symm, s2.trans p3.symm⟩

def addS (x y : Nat) : Nat := bif Nat.beq y 0 && midB (magS x) then x else bif Nat.beq x 0 && midB (magS y) then y else addS0 x y
theorem addS_eq (x y : Nat) : addS x y = oF .add x y := by
  unfold addS
  cases h : (Nat.beq y 0 && midB (magS x)) with
  | true =>
    rw [Bool.and_eq_true] at h
    have := Nat.eq_of_beq_eq_true h.1
    rw [cond_true, this]
    exact (add_zero_mid x h.2).1.symm
  | false =>
    rw [cond_false]
    cases g : (Nat.beq x 0 && midB (magS y)) with
    | true =>
      rw [Bool.and_eq_true] at g
      have := Nat.eq_of_beq_eq_true g.1
      rw [cond_true, this]
      exact (add_zero_mid y g.2).2.symm
    | false => rw [cond_false, addS0_eq]
def addZ (c m : Nat) : Nat := bif Nat.beq m 0 then addS c m else addP c m
theorem addZ_eq (c m : Nat) : addZ c m = oF .add c m := by
  unfold addZ
  cases Nat.beq m 0
  · rw [cond_false, addP_eq]
  · rw [cond_true, addS_eq]

/-- x times the positive word b -/
def mulS (x b : Nat) : Nat := fy (magS x) fun a => bif midB a && midB b then bif negS x then Nat.add 9223372036854775808 (mulP a b) else mulP a b else mulF x b

theorem mulF_sign (a b : Nat) (ha : midB a = true) (hb : midB b = true) : mulF (9223372036854775808 + a) b = 9223372036854775808 + mulF a b := by
  rw [mulF_mid a b ⟨ha, hb⟩]
  rw [midB_iff] at ha hb
  obtain ⟨p3, p4⟩ := sgn_neg a (by omega)
  obtain ⟨q1, q2⟩ := sgn_pos b (by omega)
  obtain ⟨a1, a2, a3, a4, a5, a6⟩ := mid_parts a ha
  obtain ⟨b1, b2, b3, b4, b5, b6⟩ := mid_parts b hb
  have g1 : Nat.blt a 9218868437227405312 = true := (blt_iff _ _).2 (by omega)
  have g2 : Nat.blt b 9218868437227405312 = true := (blt_iff _ _).2 (by omega)
  have g3 : Nat.ble 1074 (a / 4503599627370496 - 1 + (b / 4503599627370496 - 1)) = true := Nat.ble_eq_true_of_le (by omega)
  have g4 : a / 4503599627370496 - 1 + (b / 4503599627370496 - 1) - 1074 = a / 4503599627370496 + b / 4503599627370496 - 2 - 1074 := by omega
  unfold mulF
  simp only [fz_eq]
  rw [p3, p4, q1, q2, a3, b3, a4, b4, g1, g2, g3, g4, Bool.and_true, Bool.and_true, cond_true, if_pos (by decide), nearF_sign]

theorem mulS_eq (x b : Nat) : mulS x b = oF .mul x b := by
  unfold mulS
  rw [fy_eq]
  cases h : (midB (magS x) && midB b) with
  | false => rw [cond_false, mulF_eq]
  | true =>
    rw [Bool.and_eq_true] at h
    rw [cond_true]
    rcases magS_cases x h.1 with ⟨e1, e2⟩ | ⟨e1, e2⟩
    · rw [e1, cond_false, ← e2, mulP_eq]
    · rw [e1, cond_true, mulP_eq, ← mulF_eq, Nat.add_eq, ← mulF_sign _ _ h.1 h.2, ← e2, mulF_eq]

end Go.Proofs.Ytdomcjiiilbajaa
