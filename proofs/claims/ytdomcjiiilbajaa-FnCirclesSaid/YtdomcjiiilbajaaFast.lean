/- The operations on float64 words reckoned in plain natural numbers, so that the kernel is quick at them. -/
import Derived.Test.YtdomcjiiilbajaaLogPlain
namespace Go.Proofs.Ytdomcjiiilbajaa
open Go.RowKit
open Ieee

/-- n is reckoned before k is asked -/
def fz {α : Type} (n : Nat) (k : Nat → α) : α :=
  match n with
  | 0 => k 0
  | m + 1 => k (m + 1)
theorem fz_eq {α : Type} (n : Nat) (k : Nat → α) : fz n k = k n := by cases n <;> rfl

/-- n / 2^d, to the nearest, ties to even -/
def cutF (n d : Nat) : Nat := fz (2 ^ d) fun g => fz (n / g) fun q => fz (2 * (n % g)) fun r => bif Nat.blt g r then q + 1 else bif Nat.beq g r then q + q % 2 else q

theorem cutF_eq (neg : Bool) (n d : Nat) : cutF n d = Toward.even.cut neg n d := by
  unfold cutF Toward.cut
  simp only [fz_eq]
  have h1 : ∀ g : Nat, (bif Nat.blt g (2 * (n % g)) then n / g + 1 else bif Nat.beq g (2 * (n % g)) then n / g + n / g % 2 else n / g) = n / g + (decide (g < 2 * (n % g)) || (g == 2 * (n % g)) && (n / g % 2 == 1)).toNat := fun g => by
    by_cases a : g < 2 * (n % g)
    · have e : Nat.blt g (2 * (n % g)) = true := by simpa [Nat.blt_eq] using a
      simp [e, a]
    · have e : Nat.blt g (2 * (n % g)) = false := by rw [Bool.eq_false_iff]; intro h; exact a (by simpa [Nat.blt_eq] using h)
      by_cases b : g = 2 * (n % g)
      · have e2 : Nat.beq g (2 * (n % g)) = true := by rw [Nat.beq_eq]; exact b
        have e3 : (g == 2 * (n % g)) = true := by simpa using b
        rw [e, e2, e3]
        rcases Nat.mod_two_eq_zero_or_one (n / g) with h | h <;> simp [h, a]
      · have e2 : Nat.beq g (2 * (n % g)) = false := by rw [Bool.eq_false_iff]; intro h; exact b (Nat.eq_of_beq_eq_true h)
        have e3 : (g == 2 * (n % g)) = false := by simpa using b
        rw [e, e2, e3]
        simp [a]
  rw [h1]
  by_cases hd : d ≤ n.log2 + 2
  · rw [Nat.min_eq_left hd, Nat.shiftLeft_eq, Nat.one_mul]
  · rw [Nat.min_eq_right (by omega), Nat.shiftLeft_eq, Nat.one_mul]
    have hn : n < 2 ^ (n.log2 + 1) := Nat.lt_log2_self
    have h2 : 2 ^ (n.log2 + 2) = 2 * 2 ^ (n.log2 + 1) := by rw [Nat.pow_succ]; omega
    have h3 : 2 ^ (n.log2 + 2) ≤ 2 ^ d := Nat.pow_le_pow_right (by decide) (by omega)
    have a1 : n / 2 ^ d = 0 := Nat.div_eq_of_lt (by omega)
    have a2 : n % 2 ^ d = n := Nat.mod_eq_of_lt (by omega)
    have b1 : n / 2 ^ (n.log2 + 2) = 0 := Nat.div_eq_of_lt (by omega)
    have b2 : n % 2 ^ (n.log2 + 2) = n := Nat.mod_eq_of_lt (by omega)
    rw [a1, a2, b1, b2]
    have c1 : ¬ 2 ^ d < 2 * n := by omega
    have c2 : ¬ 2 ^ (n.log2 + 2) < 2 * n := by omega
    simp [c1, c2]

/-- the word nearest to M 2^(B - 1074), s the sign's word -/
def nearF (s M B : Nat) : Nat := bif Nat.beq M 0 then s else fz (Nat.log2 M) fun L => fz (B + L - 52) fun Q => fz (Q * 4503599627370496 + cutF (M <<< (B - Q)) (Q - B)) fun r => s + (bif Nat.ble r 9218868437227405312 then r else 9218868437227405312)

theorem min_ble (x c : Nat) : (bif Nat.ble x c then x else c) = min x c := by
  by_cases h : x ≤ c
  · rw [Nat.ble_eq_true_of_le h, Nat.min_eq_left h]; rfl
  · have e : Nat.ble x c = false := by rw [Bool.eq_false_iff]; intro hh; exact h (Nat.le_of_ble_eq_true hh)
    rw [e, Nat.min_eq_right (by omega)]; rfl

/-- the same for whatever format's constants -/
theorem near_gen (c i sw : Nat) (neg : Bool) (M B : Nat) :
    (if neg = true then sw + min (((max ((-1074 + (B : Int)) + (M.log2 : Int) - ((52 : Nat) : Int)) (-1074)) - (-1074)).toNat * c + Toward.even.cut neg (M <<< ((-1074 + (B : Int)) - max ((-1074 + (B : Int)) + (M.log2 : Int) - ((52 : Nat) : Int)) (-1074)).toNat) ((max ((-1074 + (B : Int)) + (M.log2 : Int) - ((52 : Nat) : Int)) (-1074)) - (-1074 + (B : Int))).toNat) i
     else min (((max ((-1074 + (B : Int)) + (M.log2 : Int) - ((52 : Nat) : Int)) (-1074)) - (-1074)).toNat * c + Toward.even.cut neg (M <<< ((-1074 + (B : Int)) - max ((-1074 + (B : Int)) + (M.log2 : Int) - ((52 : Nat) : Int)) (-1074)).toNat) ((max ((-1074 + (B : Int)) + (M.log2 : Int) - ((52 : Nat) : Int)) (-1074)) - (-1074 + (B : Int))).toNat) i)
    = (if neg = true then sw else 0) + (bif Nat.ble ((B + M.log2 - 52) * c + cutF (M <<< (B - (B + M.log2 - 52))) ((B + M.log2 - 52) - B)) i then ((B + M.log2 - 52) * c + cutF (M <<< (B - (B + M.log2 - 52))) ((B + M.log2 - 52) - B)) else i) := by
  have eL : max ((-1074 + (B : Int)) + (M.log2 : Int) - ((52 : Nat) : Int)) (-1074) = -1074 + ((B + M.log2 - 52 : Nat) : Int) := by omega
  rw [eL]
  have e1 : ((-1074 + (B : Int)) - (-1074 + ((B + M.log2 - 52 : Nat) : Int))).toNat = B - (B + M.log2 - 52) := by omega
  have e2 : ((-1074 + ((B + M.log2 - 52 : Nat) : Int)) - (-1074 + (B : Int))).toNat = (B + M.log2 - 52) - B := by omega
  have e3 : ((-1074 + ((B + M.log2 - 52 : Nat) : Int)) - (-1074 : Int)).toNat = B + M.log2 - 52 := by omega
  rw [e1, e2, e3, min_ble, cutF_eq neg]
  by_cases hn : neg = true
  · rw [if_pos hn, if_pos hn]
  · rw [if_neg hn, if_neg hn, Nat.zero_add]

theorem lp64 : FloatKind.f64.format.leastPlace = -1074 := by decide
theorem bn64 : FloatKind.f64.format.binade = 4503599627370496 := by decide
theorem sw64 : FloatKind.f64.format.signWeight = 9223372036854775808 := by decide

theorem nearF_eq (neg : Bool) (M B : Nat) : FloatKind.f64.format.nearest neg M (FloatKind.f64.format.leastPlace + (B : Int)) = nearF (if neg = true then 9223372036854775808 else 0) M B := by
  unfold nearF Format.nearest Format.word
  simp only [fz_eq]
  by_cases h0 : M = 0
  · rw [if_pos h0, h0, sw64]
    cases neg <;> rfl
  · have e : Nat.beq M 0 = false := by rw [Bool.eq_false_iff]; intro h; exact h0 (Nat.eq_of_beq_eq_true h)
    rw [e, if_neg h0, cond_false, lp64, bn64, Flt.inf64, sw64]
    exact near_gen _ _ _ neg M B

def rdM (r : Nat) : Nat := bif Nat.blt r 4503599627370496 then r else 4503599627370496 + r % 4503599627370496
def rdP (r : Nat) : Nat := r / 4503599627370496 - 1
theorem blt_iff (a b : Nat) : Nat.blt a b = true ↔ a < b := by simp [Nat.blt_eq]
theorem rdM_gen (c r : Nat) : (bif Nat.blt r c then r else c + r % c) = if r < c then r else c + r % c := by
  by_cases h : r < c
  · rw [(blt_iff _ _).2 h, if_pos h]; rfl
  · have e : Nat.blt r c = false := by rw [Bool.eq_false_iff]; intro hh; exact h ((blt_iff _ _).1 hh)
    rw [e, if_neg h]; rfl
theorem rdM_eq (r : Nat) : Flt.mag FloatKind.f64.format r = rdM r := by unfold Flt.mag rdM; rw [bn64, rdM_gen]
theorem rdP_eq (r : Nat) : Flt.plc FloatKind.f64.format r = rdP r := by unfold Flt.plc rdP; rw [bn64]
theorem read_F (b : Nat) (h : b % 9223372036854775808 < 9218868437227405312) : FloatKind.f64.format.read b = .number (b / 9223372036854775808 % 2 == 1) (rdM (b % 9223372036854775808)) (FloatKind.f64.format.leastPlace + (rdP (b % 9223372036854775808) : Int)) := by
  have hr : Flt.rung FloatKind.f64.format b = b % 9223372036854775808 := by unfold Flt.rung; rw [sw64]
  have := Flt.read_num FloatKind.f64.format b (by rw [hr, Flt.inf64]; exact h)
  rw [this, hr, rdM_eq, rdP_eq]
  unfold Flt.sgn; rw [sw64]

def oF (op : BinOp) (x y : Nat) : Nat := (floatBits op .f64 x y).getD 0

theorem mul_gen (f : Format) {x y m n : Nat} {s t : Bool} {i j : Int} (hx : f.read x = .number s m i) (hy : f.read y = .number t n j) : f.mul x y = some (f.nearest (s ^^ t) (m * n) (i + j)) := by
  unfold Format.mul; rw [hx, hy]; rfl
theorem add_gen (f : Format) {x y m n : Nat} {s t : Bool} {i j : Int} (hx : f.read x = .number s m i) (hy : f.read y = .number t n j) : f.add x y = some (f.write (.number (if signed s m (i - min i j).toNat + signed t n (j - min i j).toNat = 0 then s && t else decide (signed s m (i - min i j).toNat + signed t n (j - min i j).toNat < 0)) (signed s m (i - min i j).toNat + signed t n (j - min i j).toNat).natAbs (min i j))) := by
  unfold Format.add; rw [hx, hy]; rfl
theorem sub_gen (f : Format) {x y m n : Nat} {s t : Bool} {i j : Int} (hx : f.read x = .number s m i) (hy : f.read y = .number t n j) : f.sub x y = some (f.write (.number (if signed s m (i - min i j).toNat + signed (!t) n (j - min i j).toNat = 0 then s && !t else decide (signed s m (i - min i j).toNat + signed (!t) n (j - min i j).toNat < 0)) (signed s m (i - min i j).toNat + signed (!t) n (j - min i j).toNat).natAbs (min i j))) := by
  unfold Format.sub; rw [hx, hy]; rfl
theorem div_gen (f : Format) {x y m n : Nat} {s t : Bool} {i j : Int} (hx : f.read x = .number s m i) (hy : f.read y = .number t n j) (hn : n ≠ 0) : f.div x y = some (f.nearest (s ^^ t) (2 * ((m <<< (f.fractionBits + 2 + n.log2 - m.log2)) / n) + ((m <<< (f.fractionBits + 2 + n.log2 - m.log2)) % n != 0).toNat) (i - j - (f.fractionBits + 2 + n.log2 - m.log2 : Nat) - 1)) := by
  unfold Format.div Datum.quotient; rw [hx, hy]; simp only [hn, if_false]; rfl

def mulF (a b : Nat) : Nat := fz (a % 9223372036854775808) fun ra => fz (b % 9223372036854775808) fun rb => fz (rdP ra + rdP rb) fun pp =>
  bif Nat.blt ra 9218868437227405312 && Nat.blt rb 9218868437227405312 && Nat.ble 1074 pp then nearF (if ((a / 9223372036854775808 % 2 == 1) ^^ (b / 9223372036854775808 % 2 == 1)) = true then 9223372036854775808 else 0) (rdM ra * rdM rb) (pp - 1074) else oF .mul a b
theorem mulF_eq (a b : Nat) : mulF a b = oF .mul a b := by
  unfold mulF
  simp only [fz_eq]
  cases h : (Nat.blt (a % 9223372036854775808) 9218868437227405312 && Nat.blt (b % 9223372036854775808) 9218868437227405312 && Nat.ble 1074 (rdP (a % 9223372036854775808) + rdP (b % 9223372036854775808))) with
  | false => rfl
  | true =>
    simp only [Bool.and_eq_true] at h
    obtain ⟨⟨h1, h2⟩, h3⟩ := h
    have h1 := (blt_iff _ _).1 h1
    have h2 := (blt_iff _ _).1 h2
    have h3 := Nat.le_of_ble_eq_true h3
    rw [cond_true, ← nearF_eq]
    unfold oF
    rw [show floatBits .mul .f64 a b = FloatKind.f64.format.mul a b from rfl, mul_gen _ (read_F a h1) (read_F b h2), Option.getD_some]
    have e : FloatKind.f64.format.leastPlace + ((rdP (a % 9223372036854775808) + rdP (b % 9223372036854775808) - 1074 : Nat) : Int) = FloatKind.f64.format.leastPlace + (rdP (a % 9223372036854775808) : Int) + (FloatKind.f64.format.leastPlace + (rdP (b % 9223372036854775808) : Int)) := by
      rw [lp64]; omega
    rw [e]

/-- the sum of two numbers of signs sa, sb and rungs ra, rb -/
def sumF (sa : Bool) (ra : Nat) (sb : Bool) (rb : Nat) : Nat := fz (rdP ra) fun pa => fz (rdP rb) fun pb => fz (Nat.min pa pb) fun B => fz (rdM ra <<< (pa - B)) fun A => fz (rdM rb <<< (pb - B)) fun C =>
  bif sa == sb then nearF (if sa = true then 9223372036854775808 else 0) (A + C) B
  else bif Nat.beq A C then 0 else bif Nat.ble C A then nearF (if sa = true then 9223372036854775808 else 0) (A - C) B else nearF (if sb = true then 9223372036854775808 else 0) (C - A) B

theorem sum_gen (s t : Bool) (A C : Nat) : (if (Ieee.signed s A 0 + Ieee.signed t C 0 = 0) then (s && t) else decide (Ieee.signed s A 0 + Ieee.signed t C 0 < 0), (Ieee.signed s A 0 + Ieee.signed t C 0).natAbs) =
    (if s = t then (s, A + C) else if A = C then (false, 0) else if C ≤ A then (s, A - C) else (t, C - A)) := by
  have e : ∀ (b : Bool) (n : Nat), Ieee.signed b n 0 = if b then -(n : Int) else (n : Int) := fun b n => by rw [Flt.signed_val]; simp
  rw [e, e]
  cases s <;> cases t <;> simp only [Bool.false_eq_true, if_false, if_true, Bool.and_false, Bool.and_true, Bool.and_self, Bool.true_eq_false] <;> (repeat' split) <;> (try simp only [Prod.mk.injEq, decide_eq_true_eq, decide_eq_false_iff_not, true_and, eq_self]) <;> first | omega | (refine ⟨?_, ?_⟩ <;> (try simp) <;> omega) | skip

theorem signed_shift (s : Bool) (m u : Nat) : signed s m u = signed s (m <<< u) 0 := by unfold signed; rw [Nat.shiftLeft_zero]

theorem sumF_eq (sa sb : Bool) (ra rb : Nat) :
    sumF sa ra sb rb = FloatKind.f64.format.write (.number (if signed sa (rdM ra) ((FloatKind.f64.format.leastPlace + (rdP ra : Int)) - min (FloatKind.f64.format.leastPlace + (rdP ra : Int)) (FloatKind.f64.format.leastPlace + (rdP rb : Int))).toNat + signed sb (rdM rb) ((FloatKind.f64.format.leastPlace + (rdP rb : Int)) - min (FloatKind.f64.format.leastPlace + (rdP ra : Int)) (FloatKind.f64.format.leastPlace + (rdP rb : Int))).toNat = 0 then sa && sb else decide (signed sa (rdM ra) ((FloatKind.f64.format.leastPlace + (rdP ra : Int)) - min (FloatKind.f64.format.leastPlace + (rdP ra : Int)) (FloatKind.f64.format.leastPlace + (rdP rb : Int))).toNat + signed sb (rdM rb) ((FloatKind.f64.format.leastPlace + (rdP rb : Int)) - min (FloatKind.f64.format.leastPlace + (rdP ra : Int)) (FloatKind.f64.format.leastPlace + (rdP rb : Int))).toNat < 0))
      (signed sa (rdM ra) ((FloatKind.f64.format.leastPlace + (rdP ra : Int)) - min (FloatKind.f64.format.leastPlace + (rdP ra : Int)) (FloatKind.f64.format.leastPlace + (rdP rb : Int))).toNat + signed sb (rdM rb) ((FloatKind.f64.format.leastPlace + (rdP rb : Int)) - min (FloatKind.f64.format.leastPlace + (rdP ra : Int)) (FloatKind.f64.format.leastPlace + (rdP rb : Int))).toNat).natAbs (min (FloatKind.f64.format.leastPlace + (rdP ra : Int)) (FloatKind.f64.format.leastPlace + (rdP rb : Int)))) := by
  have e0 : min (FloatKind.f64.format.leastPlace + (rdP ra : Int)) (FloatKind.f64.format.leastPlace + (rdP rb : Int)) = FloatKind.f64.format.leastPlace + (min (rdP ra) (rdP rb) : Nat) := by omega
  have e1 : ((FloatKind.f64.format.leastPlace + (rdP ra : Int)) - (FloatKind.f64.format.leastPlace + (min (rdP ra) (rdP rb) : Nat))).toNat = rdP ra - min (rdP ra) (rdP rb) := by omega
  have e2 : ((FloatKind.f64.format.leastPlace + (rdP rb : Int)) - (FloatKind.f64.format.leastPlace + (min (rdP ra) (rdP rb) : Nat))).toNat = rdP rb - min (rdP ra) (rdP rb) := by omega
  rw [e0, e1, e2, signed_shift sa, signed_shift sb]
  unfold sumF
  simp only [fz_eq]
  show _ = FloatKind.f64.format.nearest _ _ _
  rw [show Nat.min (rdP ra) (rdP rb) = min (rdP ra) (rdP rb) from rfl]
  have hs := sum_gen sa sb (rdM ra <<< (rdP ra - min (rdP ra) (rdP rb))) (rdM rb <<< (rdP rb - min (rdP ra) (rdP rb)))
  generalize rdM ra <<< (rdP ra - min (rdP ra) (rdP rb)) = A at *
  generalize rdM rb <<< (rdP rb - min (rdP ra) (rdP rb)) = C at *
  have h1 := congrArg Prod.fst hs
  have h2 := congrArg Prod.snd hs
  simp only at h1 h2
  rw [h1, h2]
  by_cases hst : sa = sb
  · have e : (sa == sb) = true := by simpa using hst
    rw [e, if_pos hst, cond_true, nearF_eq]
  · have e : (sa == sb) = false := by simpa using hst
    rw [e, if_neg hst, cond_false]
    by_cases hac : A = C
    · have e : Nat.beq A C = true := by rw [Nat.beq_eq]; exact hac
      rw [e, if_pos hac, cond_true, nearF_eq]
      rfl
    · have e : Nat.beq A C = false := by rw [Bool.eq_false_iff]; intro h; exact hac (Nat.eq_of_beq_eq_true h)
      rw [e, if_neg hac, cond_false]
      by_cases hle : C ≤ A
      · rw [Nat.ble_eq_true_of_le hle, if_pos hle, cond_true, nearF_eq]
      · have e : Nat.ble C A = false := by rw [Bool.eq_false_iff]; intro hh; exact hle (Nat.le_of_ble_eq_true hh)
        rw [e, if_neg hle, cond_false, nearF_eq]

def addF (a b : Nat) : Nat := fz (a % 9223372036854775808) fun ra => fz (b % 9223372036854775808) fun rb =>
  bif Nat.blt ra 9218868437227405312 && Nat.blt rb 9218868437227405312 then sumF (a / 9223372036854775808 % 2 == 1) ra (b / 9223372036854775808 % 2 == 1) rb else oF .add a b
def subF (a b : Nat) : Nat := fz (a % 9223372036854775808) fun ra => fz (b % 9223372036854775808) fun rb =>
  bif Nat.blt ra 9218868437227405312 && Nat.blt rb 9218868437227405312 then sumF (a / 9223372036854775808 % 2 == 1) ra (!(b / 9223372036854775808 % 2 == 1)) rb else oF .sub a b
theorem addF_eq (a b : Nat) : addF a b = oF .add a b := by
  unfold addF
  simp only [fz_eq]
  cases h : (Nat.blt (a % 9223372036854775808) 9218868437227405312 && Nat.blt (b % 9223372036854775808) 9218868437227405312) with
  | false => rfl
  | true =>
    simp only [Bool.and_eq_true] at h
    have h1 := (blt_iff _ _).1 h.1
    have h2 := (blt_iff _ _).1 h.2
    unfold oF
    rw [show floatBits .add .f64 a b = FloatKind.f64.format.add a b from rfl, add_gen _ (read_F a h1) (read_F b h2), Option.getD_some, cond_true, sumF_eq]
theorem subF_eq (a b : Nat) : subF a b = oF .sub a b := by
  unfold subF
  simp only [fz_eq]
  cases h : (Nat.blt (a % 9223372036854775808) 9218868437227405312 && Nat.blt (b % 9223372036854775808) 9218868437227405312) with
  | false => rfl
  | true =>
    simp only [Bool.and_eq_true] at h
    have h1 := (blt_iff _ _).1 h.1
    have h2 := (blt_iff _ _).1 h.2
    unfold oF
    rw [show floatBits .sub .f64 a b = FloatKind.f64.format.sub a b from rfl, sub_gen _ (read_F a h1) (read_F b h2), Option.getD_some, cond_true, sumF_eq]

def quoF (a b : Nat) : Nat := fz (a % 9223372036854775808) fun ra => fz (b % 9223372036854775808) fun rb => fz (rdM ra) fun m => fz (rdM rb) fun n => fz (54 + Nat.log2 n - Nat.log2 m) fun more => fz (rdP ra + 1074) fun p => fz (rdP rb + more + 1) fun q => fz (m <<< more) fun v =>
  bif Nat.blt ra 9218868437227405312 && Nat.blt rb 9218868437227405312 && Nat.ble q p && !(Nat.beq n 0) then nearF (if ((a / 9223372036854775808 % 2 == 1) ^^ (b / 9223372036854775808 % 2 == 1)) = true then 9223372036854775808 else 0) (2 * (v / n) + (v % n != 0).toNat) (p - q) else oF .quo a b
theorem quoF_eq (a b : Nat) : quoF a b = oF .quo a b := by
  unfold quoF
  simp only [fz_eq]
  cases h : (Nat.blt (a % 9223372036854775808) 9218868437227405312 && Nat.blt (b % 9223372036854775808) 9218868437227405312 && Nat.ble (rdP (b % 9223372036854775808) + (54 + Nat.log2 (rdM (b % 9223372036854775808)) - Nat.log2 (rdM (a % 9223372036854775808))) + 1) (rdP (a % 9223372036854775808) + 1074) && !(Nat.beq (rdM (b % 9223372036854775808)) 0)) with
  | false => rfl
  | true =>
    simp only [Bool.and_eq_true, Bool.not_eq_true'] at h
    obtain ⟨⟨⟨h1, h2⟩, h3⟩, h4⟩ := h
    have h1 := (blt_iff _ _).1 h1
    have h2 := (blt_iff _ _).1 h2
    have h3 := Nat.le_of_ble_eq_true h3
    have h4 : rdM (b % 9223372036854775808) ≠ 0 := fun e => by rw [e] at h4; cases h4
    unfold oF
    rw [show floatBits .quo .f64 a b = FloatKind.f64.format.div a b from rfl, div_gen _ (read_F a h1) (read_F b h2) h4, Option.getD_some, cond_true, ← nearF_eq]
    have hf : FloatKind.f64.format.fractionBits + 2 = 54 := rfl
    rw [hf]
    generalize rdM (b % 9223372036854775808) = n at *
    generalize rdM (a % 9223372036854775808) = m at *
    have e : FloatKind.f64.format.leastPlace + ((rdP (a % 9223372036854775808) + 1074 - (rdP (b % 9223372036854775808) + (54 + n.log2 - m.log2) + 1) : Nat) : Int) = FloatKind.f64.format.leastPlace + (rdP (a % 9223372036854775808) : Int) - (FloatKind.f64.format.leastPlace + (rdP (b % 9223372036854775808) : Int)) - ((54 + n.log2 - m.log2 : Nat) : Int) - 1 := by
      rw [lp64]; omega
    rw [e]

end Go.Proofs.Ytdomcjiiilbajaa
