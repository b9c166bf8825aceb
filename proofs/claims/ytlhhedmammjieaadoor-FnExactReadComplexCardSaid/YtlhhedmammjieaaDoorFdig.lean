/- The number that eight hexadecimal digits spell. -/
import Derived.Test.YtlhhedmammjieaaDoorParse
import Derived.Test.YtlhhedmammjieaaDoorHex
namespace Go.Proofs.YtlhhedmammjieaaDoor
open Go.RowKit

def isHex (c : UInt8) : Prop := (48 ≤ c.toNat ∧ c.toNat ≤ 57) ∨ (97 ≤ c.toNat ∧ c.toNat ≤ 102)
def nib (c : UInt8) : Nat := if c.toNat ≤ 57 then c.toNat - 48 else c.toNat - 87
def hval (t : List UInt8) : Nat := t.foldl (fun a c => 16 * a + nib c) 0

theorem hval_snoc (l : List UInt8) (c : UInt8) : hval (l ++ [c]) = 16 * hval l + nib c := by
  unfold hval; rw [List.foldl_append]; rfl

theorem hexDig_toNat {q : Nat} (h : q < 16) : (hexDig q).toNat = if q < 10 then 48 + q else 87 + q := by
  by_cases h' : q < 10
  · rw [if_pos h', hexDig_small h']
  · rw [if_neg h', hexDig_great h' h]
theorem nib_hexDig {q : Nat} (h : q < 16) : nib (hexDig q) = q := by
  unfold nib; rw [hexDig_toNat h]; split <;> split <;> omega
theorem isHex_hexDig {q : Nat} (h : q < 16) : isHex (hexDig q) := by
  unfold isHex; rw [hexDig_toNat h]; split <;> omega
theorem hexDig_nib {c : UInt8} (h : isHex c) : nib c < 16 ∧ hexDig (nib c) = c := by
  have hlt : nib c < 16 := by unfold nib; rcases h with h | h <;> split <;> omega
  refine ⟨hlt, UInt8.toNat_inj.1 ?_⟩
  rw [hexDig_toNat hlt]
  unfold nib at hlt ⊢
  rcases h with h | h <;> split <;> split <;> omega

theorem hval_pad : ∀ k m, m < 16 ^ k → hval (hexPad k m) = m
  | 0, m, h => by simp [hexPad, hval]; omega
  | k + 1, m, h => by
    have hp : 16 ^ (k + 1) = 16 * 16 ^ k := by rw [Nat.pow_succ, Nat.mul_comm]
    rw [hexPad, hval_snoc, hval_pad k (m / 16) (by omega), nib_hexDig (Nat.mod_lt _ (by decide))]
    omega

theorem pad_hval : ∀ (k : Nat) (l : List UInt8), l.length = k → (∀ c ∈ l, isHex c) → hval l < 16 ^ k ∧ hexPad k (hval l) = l
  | 0, l, h, _ => by
    obtain rfl := List.eq_nil_of_length_eq_zero h
    exact ⟨by decide, rfl⟩
  | k + 1, l, h, hx => by
    rcases List.eq_nil_or_concat l with rfl | ⟨l', c, rfl⟩
    · simp at h
    · rw [List.concat_eq_append] at *
      have hl : l'.length = k := by simpa using h
      obtain ⟨h1, h2⟩ := pad_hval k l' hl (fun x hx' => hx x (List.mem_append_left _ hx'))
      obtain ⟨h3, h4⟩ := hexDig_nib (hx c (by simp))
      have hp : 16 ^ (k + 1) = 16 * 16 ^ k := by rw [Nat.pow_succ, Nat.mul_comm]
      rw [hval_snoc]
      refine ⟨by omega, ?_⟩
      rw [hexPad, show (16 * hval l' + nib c) / 16 = hval l' by omega, show (16 * hval l' + nib c) % 16 = nib c by omega, h2, h4]

theorem pad_isHex : ∀ k m, ∀ c ∈ hexPad k m, isHex c
  | 0, m, c, h => by cases h
  | k + 1, m, c, h => by
    rw [hexPad] at h
    rcases List.mem_append.1 h with h | h
    · exact pad_isHex k _ c h
    · obtain rfl := List.mem_singleton.1 h
      exact isHex_hexDig (Nat.mod_lt _ (by decide))

/-- what both readers answer: the number's bits and whether there is one -/
def fdig (t : List UInt8) : Nat × Bool := if hval t < 4294967296 ∧ hexPad 8 (hval t) = t ∧ bitsOf (hval t) = hval t then (hval t, true) else (0, false)

theorem fdig_length {t : List UInt8} (h : t.length ≠ 8) : fdig t = (0, false) := by
  unfold fdig
  rw [if_neg]
  rintro ⟨_, h1, _⟩
  rw [← h1, hexPad_length] at h
  exact h rfl
theorem fdig_bad {t : List UInt8} {c : UInt8} (hc : c ∈ t) (h : ¬ isHex c) : fdig t = (0, false) := by
  unfold fdig
  rw [if_neg]
  rintro ⟨_, h1, _⟩
  rw [← h1] at hc
  exact h (pad_isHex _ _ c hc)
theorem fdig_all {t : List UInt8} (hl : t.length = 8) (h : ∀ c ∈ t, isHex c) : hval t < 4294967296 ∧ fdig t = if bitsOf (hval t) = hval t then (hval t, true) else (0, false) := by
  obtain ⟨h1, h2⟩ := pad_hval 8 t hl h
  have h1' : hval t < 4294967296 := h1
  refine ⟨h1', ?_⟩
  unfold fdig
  by_cases hb : bitsOf (hval t) = hval t
  · rw [if_pos ⟨h1', h2, hb⟩, if_pos hb]
  · rw [if_neg (fun h => hb h.2.2), if_neg hb]

/-- by the program's parse: an error -/
theorem fdig_err {t : List UInt8} (h : ∀ m, Good t m → False) : fdig t = (0, false) := by
  unfold fdig
  rw [if_neg]
  rintro ⟨h1, h2, _⟩
  exact h _ ⟨h1, h2.symm⟩
/-- by the program's parse: a number -/
theorem fdig_num {t : List UInt8} {n : Nat} (hn : n < 4294967296) (h : ∀ m, Good t m → n = m) : fdig t = if hex8 n = t then (n, true) else (0, false) := by
  unfold fdig hex8
  by_cases hx : hexPad 8 (bitsOf n) = t
  · have hb := bitsOf_lt n hn
    have e : n = bitsOf n := h _ ⟨hb, hx.symm⟩
    have hv : hval t = n := by rw [← hx, hval_pad 8 _ hb, ← e]
    rw [hv, if_pos hx, if_pos ⟨hn, by rw [← hx, ← e], e.symm⟩]
  · rw [if_neg hx, if_neg]
    rintro ⟨h1, h2, h3⟩
    have e : n = hval t := h _ ⟨h1, h2.symm⟩
    exact hx (by rw [e, h3, h2])

theorem fdig_lt (t : List UInt8) : (fdig t).1 < 4294967296 := by
  unfold fdig
  split
  · rename_i h; exact h.1
  · decide

end Go.Proofs.YtlhhedmammjieaaDoor
