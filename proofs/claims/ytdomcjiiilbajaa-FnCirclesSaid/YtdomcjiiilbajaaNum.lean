/- Float64 operations on numbers as plain functions of words, with bounds by powers of two. -/
import Derived.Test.YtdomcjiiilbajaaLogPlain
import Derived.Test.YtdomcjiiilbajaaFloat
namespace Go.Proofs.Ytdomcjiiilbajaa.Flt
open Ieee
open Go.RowKit

/-- the word of an operation on two numbers -/
def o (op : BinOp) (x y : Nat) : Nat := (floatBits op .f64 x y).getD 0

/-- x is a number of magnitude at most '2 ^ e' -/
def N (x : Nat) (e : Int) : Prop := rung FloatKind.f64.format x ≤ pw FloatKind.f64.format e
/-- x bears no sign -/
def P (x : Nat) : Prop := sgn FloatKind.f64.format x = false

theorem N.nb {x : Nat} {e : Int} (h : N x e) : Nb .f64 (some x) e := ⟨x, rfl, h⟩
theorem N.of {x : Nat} {e : Int} (h : Nb .f64 (some x) e) : N x e := by obtain ⟨b, hb, hr⟩ := h; cases hb; exact hr
theorem N.mono {x : Nat} {a b : Int} (h : N x a) (hab : a ≤ b) : N x b := Nat.le_trans h (pw_mono _ hab)
theorem P.nn {x : Nat} (h : P x) : Nn .f64 (some x) := fun b hb => by cases hb; exact h

theorem o_of {op : BinOp} {x y : Nat} {e : Int} (h : Nb .f64 (fop op .f64 (some x) (some y)) e) : (∀ w, fB op .f64 x y w = o op x y) ∧ N (o op x y) e := by
  obtain ⟨b, hb, hr⟩ := h
  have hb' : floatBits op .f64 x y = some b := hb
  have ho : o op x y = b := by unfold o; rw [hb']; rfl
  exact ⟨fun w => by unfold fB; rw [hb', ho]; rfl, by rw [ho]; exact hr⟩

theorem o_lt {op : BinOp} {x y : Nat} : o op x y < 18446744073709551616 := by
  unfold o
  cases h : floatBits op .f64 x y with
  | none => decide
  | some r => exact floatBits_lt h

section
variable {x y : Nat} {a b : Int}
theorem o_mul (hx : N x a) (hy : N y b) (h1 : -500 ≤ a := by omega) (h2 : a ≤ 500 := by omega) (h3 : -500 ≤ b := by omega) (h4 : b ≤ 500 := by omega) : (∀ w, fB .mul .f64 x y w = o .mul x y) ∧ N (o .mul x y) (a + b) :=
  o_of (hx.nb.mul hy.nb (rg64 (by omega) (by omega)) (rg64 (by omega) (by omega)) (rg64 (by omega) (by omega)))
theorem o_add (hx : N x a) (hy : N y a) (h1 : -500 ≤ a := by omega) (h2 : a ≤ 500 := by omega) : (∀ w, fB .add .f64 x y w = o .add x y) ∧ N (o .add x y) (a + 1) :=
  o_of (hx.nb.add hy.nb (rg64 (by omega) (by omega)) (rg64 (by omega) (by omega)))
theorem o_sub (hx : N x a) (hy : N y a) (h1 : -500 ≤ a := by omega) (h2 : a ≤ 500 := by omega) : (∀ w, fB .sub .f64 x y w = o .sub x y) ∧ N (o .sub x y) (a + 1) :=
  o_of (hx.nb.sub hy.nb (rg64 (by omega) (by omega)) (rg64 (by omega) (by omega)))
theorem o_dif (hx : N x a) (hy : N y a) (px : P x) (py : P y) (h1 : -500 ≤ a := by omega) (h2 : a ≤ 500 := by omega) : (∀ w, fB .sub .f64 x y w = o .sub x y) ∧ N (o .sub x y) a :=
  o_of (hx.nb.dif hy.nb px.nn py.nn (rg64 (by omega) (by omega)))
theorem o_div (hx : N x a) (hy : Lb .f64 (some y) b) (h1 : -500 ≤ a := by omega) (h2 : a ≤ 500 := by omega) (h3 : -500 ≤ b := by omega) (h4 : b ≤ 500 := by omega) : (∀ w, fB .quo .f64 x y w = o .quo x y) ∧ N (o .quo x y) (a - b) :=
  o_of (hx.nb.div hy (rg64 (by omega) (by omega)) (by rw [show FloatKind.f64.format.leastPlace = -1074 by decide, show FloatKind.f64.format.fractionBits = 52 from rfl]; omega) (rg64 (by omega) (by omega)))
end

theorem o_some {op : BinOp} {x y : Nat} {e : Int} (h : Nb .f64 (fop op .f64 (some x) (some y)) e) : fop op .f64 (some x) (some y) = some (o op x y) := by
  obtain ⟨b, hb, hr⟩ := h
  have hb' : floatBits op .f64 x y = some b := hb
  show floatBits op .f64 x y = _
  rw [hb']; unfold o; rw [hb']; rfl

theorem N.rung_le {x : Nat} {e : Int} (h : N x e) (he : e ≤ 1023) (he' : -1021 ≤ e) : rung FloatKind.f64.format x < FloatKind.f64.format.infRung := Nat.lt_of_le_of_lt h (rg64 he' he).2

/-- Numbers of opposite signs add up to no more than the greater. -/
theorem Nb.add_opp {k : FloatKind} {x y : Option Nat} {a : Int} (hx : Nb k x a) (hy : Nb k y a) (nx : ∀ b, x = some b → sgn k.format b = true) (ny : Nn k y) (ha : Rg k.format a) : Nb k (fop .add k x y) a := by
  obtain ⟨u, rfl, h1⟩ := hx
  obtain ⟨v, rfl, h2⟩ := hy
  obtain ⟨m, p, e1, l1⟩ := read_nb k u a ha h1
  obtain ⟨n, q, e2, l2⟩ := read_nb k v a ha h2
  rw [nx u rfl] at e1
  rw [ny v rfl] at e2
  show Nb k (k.format.add u v) _
  unfold Format.add; rw [e1, e2]
  show Nb k (some (k.format.nearest _ _ _)) _
  refine nearest_nb k _ _ _ _ ha ?_
  show Le2 (signed true m (p - min p q).toNat + signed false n (q - min p q).toNat).natAbs (min p q) a
  generalize hc : min p q = c
  by_cases h0 : (signed true m (p - c).toNat + signed false n (q - c).toNat).natAbs = 0
  · exact .inl h0
  · have hce : c ≤ a := by
      apply Classical.byContradiction
      intro hgt
      have hm : m = 0 := by
        rcases l1 with h | ⟨x, h1, _⟩
        · exact h
        · omega
      have hn : n = 0 := by
        rcases l2 with h | ⟨x, h1, _⟩
        · exact h
        · omega
      apply h0
      rw [hm, hn, signed_val, signed_val]
      simp
    right
    refine ⟨(a - c).toNat, by omega, ?_⟩
    have h1 := l1.shift (c := c) (by omega) hce
    have h2 := l2.shift (c := c) (by omega) hce
    rw [signed_val, signed_val]
    simp only [Bool.false_eq_true, if_false, if_true]
    omega

/-- Not greater over not smaller is at most one. -/
theorem div_le_one {x y : Nat} (h : rung FloatKind.f64.format x ≤ rung FloatKind.f64.format y) (hy : rung FloatKind.f64.format y < FloatKind.f64.format.infRung) (hy0 : rung FloatKind.f64.format y ≠ 0) : Nb .f64 (fop .quo .f64 (some x) (some y)) 0 := by
  have hx : rung FloatKind.f64.format x < FloatKind.f64.format.infRung := by omega
  have e1 := read_num _ x hx
  have e2 := read_num _ y hy
  have hv := val_le FloatKind.f64.format h
  rw [mag_plc_val, mag_plc_val] at hv
  have hn : mag FloatKind.f64.format (rung FloatKind.f64.format y) ≠ 0 := by
    intro hz
    have : val FloatKind.f64.format (rung FloatKind.f64.format y) = 0 := by rw [mag_plc_val, hz, Nat.zero_mul]
    have h0 := val_zero FloatKind.f64.format
    exact hy0 (val_inj _ (this.trans h0.symm))
  show Nb .f64 (FloatKind.f64.format.div x y) _
  unfold Format.div
  rw [e1, e2]
  generalize mag FloatKind.f64.format (rung FloatKind.f64.format x) = m at *
  generalize mag FloatKind.f64.format (rung FloatKind.f64.format y) = n at *
  generalize plc FloatKind.f64.format (rung FloatKind.f64.format x) = i at *
  generalize plc FloatKind.f64.format (rung FloatKind.f64.format y) = j at *
  rw [quo_num, if_neg hn]
  refine nearest_nb .f64 _ _ _ _ (rg64 (by decide) (by decide)) ?_
  by_cases hm : m = 0
  · left; rw [hm]; simp
  · right
    generalize hmore : FloatKind.f64.format.fractionBits + 2 + n.log2 - m.log2 = more
    have hml := log2_lo m hm
    have hnh := log2_hi n
    have hf : FloatKind.f64.format.fractionBits = 52 := rfl
    -- m * 2 ^ i ≤ n * 2 ^ j
    have hlog : (m.log2 : Int) + i ≤ n.log2 + j := by
      have e3 := log2_mul_pow m i hm
      have e4 := log2_mul_pow n j hn
      have := log2_mono (by have := Nat.two_pow_pos i; have : 0 < m * 2 ^ i := Nat.mul_pos (by omega) this; omega) hv
      omega
    obtain ⟨k, hk⟩ : ∃ k : Nat, (k : Int) = j + more - i := ⟨(j + more - i : Int).toNat, by omega⟩
    refine ⟨k + 1, by omega, ?_⟩
    have hD : m <<< more ≤ 2 ^ k * n := by
      rw [Nat.shiftLeft_eq]
      apply Nat.le_of_mul_le_mul_right _ (Nat.two_pow_pos i)
      have := Nat.mul_le_mul_right (2 ^ more) hv
      rw [Nat.mul_right_comm, Nat.mul_right_comm n] at this
      refine Nat.le_trans this ?_
      rw [Nat.mul_comm (2 ^ k) n, Nat.mul_assoc, Nat.mul_assoc, ← Nat.pow_add, ← Nat.pow_add]
      exact Nat.mul_le_mul_left _ (Nat.pow_le_pow_right (by decide) (by omega))
    rw [Nat.pow_succ]
    generalize m <<< more = D at *
    generalize 2 ^ k = B at *
    have hn0 : 0 < n := by omega
    have hdm := Nat.div_add_mod D n
    have hle : D / n ≤ B := (Nat.div_le_iff_le_mul_add_pred hn0).2 (by rw [Nat.mul_comm n B]; omega)
    rcases Nat.lt_or_eq_of_le hle with hlt | heq
    · have : (D % n != 0).toNat ≤ 1 := Bool.toNat_le _
      omega
    · have hz : D % n = 0 := by
        rw [heq, Nat.mul_comm n B] at hdm; omega
      rw [hz, heq]; simp; omega

end Go.Proofs.Ytdomcjiiilbajaa.Flt
