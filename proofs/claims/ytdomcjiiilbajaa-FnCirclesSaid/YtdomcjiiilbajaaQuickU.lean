/- The greatest whole number not above a float64 word, reckoned in few steps. -/
import Derived.Test.YtdomcjiiilbajaaQuickT
namespace Go.Proofs.Ytdomcjiiilbajaa
open Go.RowKit
open Ieee

def lI (b : Nat) : Int := (floatToIntVal .f64 (Flt.flr b) .i64).getD 0

theorem cut_down (neg : Bool) (n d : Nat) : Toward.down.cut neg n d = n / 2 ^ d + (neg && n % 2 ^ d != 0).toNat := by
  unfold Toward.cut
  dsimp only
  rw [Nat.one_shiftLeft]
  by_cases hd : d ≤ n.log2 + 2
  · rw [Nat.min_eq_left hd]
  · rw [Nat.min_eq_right (by omega)]
    have hn : n < 2 ^ (n.log2 + 1) := Nat.lt_log2_self
    have h2 : 2 ^ (n.log2 + 2) = 2 * 2 ^ (n.log2 + 1) := by rw [Nat.pow_succ]; omega
    have h3 : 2 ^ (n.log2 + 2) ≤ 2 ^ d := Nat.pow_le_pow_right (by decide) (by omega)
    rw [Nat.div_eq_of_lt (by omega), Nat.mod_eq_of_lt (by omega), Nat.div_eq_of_lt (by omega), Nat.mod_eq_of_lt (by omega)]

theorem ceil_eq (m g : Nat) (hg : 0 < g) : (m + (g - 1)) / g = m / g + (true && m % g != 0).toNat := by
  have hm := Nat.div_add_mod m g
  have hl := Nat.mod_lt m hg
  generalize m / g = q at *
  generalize m % g = r at *
  have e : m + (g - 1) = (r + (g - 1)) + g * q := by omega
  rw [e, Nat.add_mul_div_left _ _ hg, Bool.true_and, Nat.add_comm]
  congr 1
  by_cases h : r = 0
  · subst h
    rw [Nat.div_eq_of_lt (by omega)]; rfl
  · have : (r + (g - 1)) / g = 1 := by rw [Nat.div_eq_iff hg]; omega
    rw [this, show (r != 0) = true by simpa using h]; rfl

theorem smallInt : (List.range 312).all (fun n => floatToIntVal .f64 (FloatKind.f64.encode (.number false n 0)) .i64 == some (n : Int) && floatToIntVal .f64 (FloatKind.f64.encode (.number true n 0)) .i64 == some (-(n : Int))) = true := by decide +kernel
theorem smallInt_at (n : Nat) (h : n < 312) : floatToIntVal .f64 (FloatKind.f64.encode (.number false n 0)) .i64 = some (n : Int) ∧ floatToIntVal .f64 (FloatKind.f64.encode (.number true n 0)) .i64 = some (-(n : Int)) := by
  have := List.all_eq_true.1 smallInt n (List.mem_range.2 h)
  rw [Bool.and_eq_true, beq_iff_eq, beq_iff_eq] at this
  exact this

/-- 200 more than the greatest whole number not above -/
def flrQ (x : Nat) : Nat := fy (magS x) fun a => bif midB a then
    fy (Nat.pow 2 (Nat.sub 1075 (Nat.div a 4503599627370496))) fun g =>
    bif negS x then Nat.sub 200 (Nat.div (Nat.add (Nat.add (Nat.mod a 4503599627370496) 4503599627370496) (Nat.sub g 1)) g)
    else Nat.add 200 (Nat.div (Nat.add (Nat.mod a 4503599627370496) 4503599627370496) g)
  else (lI x + 200).toNat

theorem flr_mid (a : Nat) (s : Bool) (x : Nat) (h : midB a = true) (hx : x % 9223372036854775808 = a ∧ (x / 9223372036854775808 % 2 == 1) = s) (hle : a / 4503599627370496 ≤ 1075) :
    Flt.flr x = FloatKind.f64.encode (.number s ((a % 4503599627370496 + 4503599627370496) / 2 ^ (1075 - a / 4503599627370496) + (s && (a % 4503599627370496 + 4503599627370496) % 2 ^ (1075 - a / 4503599627370496) != 0).toNat) 0) := by
  have ha := (midB_iff a).1 h
  obtain ⟨a1, a2, a3, a4, a5, a6⟩ := mid_parts a ha
  unfold Flt.flr
  rw [show FloatKind.f64.decode x = _ from read_F x (by rw [hx.1]; omega), hx.1, hx.2, a3, a4, lp64]
  show FloatKind.f64.encode (.number s (Toward.down.cut s (_ <<< (-1074 + ((a / 4503599627370496 - 1 : Nat) : Int)).toNat) (-(-1074 + ((a / 4503599627370496 - 1 : Nat) : Int))).toNat) 0) = _
  rw [show (-1074 + ((a / 4503599627370496 - 1 : Nat) : Int)).toNat = 0 by omega, show (-(-1074 + ((a / 4503599627370496 - 1 : Nat) : Int))).toNat = 1075 - a / 4503599627370496 by omega, Nat.shiftLeft_zero, cut_down]

theorem flrQ_at (x N : Nat) (h : flrQ x = N) (h1 : 1 ≤ N) (h2 : N ≤ 511) : lI x = (N : Int) - 200 := by
  unfold flrQ at h
  rw [fy_eq] at h
  cases hm : midB (magS x) with
  | false =>
    rw [hm, cond_false] at h
    omega
  | true =>
    have ha := (midB_iff _).1 hm
    rw [hm, cond_true, fy_eq] at h
    have hp : ∀ e, 0 < 2 ^ e := fun e => Nat.two_pow_pos e
    rcases magS_cases x hm with ⟨e1, e2⟩ | ⟨e1, e2⟩
    · obtain ⟨p1, p2⟩ := sgn_pos (magS x) (by omega)
      rw [e1, cond_false] at h
      by_cases hle : magS x / 4503599627370496 ≤ 1075
      · have hf := flr_mid (magS x) false x hm ⟨(congrArg (fun t => t % 9223372036854775808) e2).trans p1, ((congrArg (fun t => t / 9223372036854775808 % 2 == 1) e2).trans p2)⟩ hle
        change 200 + (magS x % 4503599627370496 + 4503599627370496) / 2 ^ (1075 - magS x / 4503599627370496) = N at h
        unfold lI
        rw [hf, Bool.false_and]
        generalize (magS x % 4503599627370496 + 4503599627370496) / 2 ^ (1075 - magS x / 4503599627370496) = n at *
        rw [show n + Bool.toNat false = n from rfl, (smallInt_at n (by omega)).1, Option.getD_some]
        omega
      · exfalso
        change 200 + (magS x % 4503599627370496 + 4503599627370496) / 2 ^ (1075 - magS x / 4503599627370496) = N at h
        rw [show 1075 - magS x / 4503599627370496 = 0 by omega, Nat.pow_zero, Nat.div_one] at h
        omega
    · obtain ⟨p1, p2⟩ := sgn_neg (magS x) (by omega)
      rw [e1, cond_true] at h
      change 200 - (magS x % 4503599627370496 + 4503599627370496 + (2 ^ (1075 - magS x / 4503599627370496) - 1)) / 2 ^ (1075 - magS x / 4503599627370496) = N at h
      rw [ceil_eq _ _ (hp _)] at h
      by_cases hle : magS x / 4503599627370496 ≤ 1075
      · have hf := flr_mid (magS x) true x hm ⟨(congrArg (fun t => t % 9223372036854775808) e2).trans p1, ((congrArg (fun t => t / 9223372036854775808 % 2 == 1) e2).trans p2)⟩ hle
        unfold lI
        rw [hf]
        generalize (magS x % 4503599627370496 + 4503599627370496) / 2 ^ (1075 - magS x / 4503599627370496) + (true && (magS x % 4503599627370496 + 4503599627370496) % 2 ^ (1075 - magS x / 4503599627370496) != 0).toNat = n at *
        rw [(smallInt_at n (by omega)).2, Option.getD_some]
        omega
      · exfalso
        rw [show 1075 - magS x / 4503599627370496 = 0 by omega, Nat.pow_zero, Nat.div_one, Nat.mod_one] at h
        omega

end Go.Proofs.Ytdomcjiiilbajaa
