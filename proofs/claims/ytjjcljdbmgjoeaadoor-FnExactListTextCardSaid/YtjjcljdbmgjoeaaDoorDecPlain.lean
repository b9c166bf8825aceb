/- Decimal digits taken from the end: what a loop has written and what is left make the numeral. -/
import Derived.Lib.ItoaMem
namespace Go.Proofs.YtjjcljdbmgjoeaaDoor
open Go.Lib

/-- xs are the last digits of n, r is what is left -/
def Dig (n : Int) (xs : List UInt8) (r : Int) : Prop := (xs = [] ∧ r = n) ∨ (xs ≠ [] ∧ decDigits n.natAbs = (if r = 0 then [] else decDigits r.natAbs) ++ xs)

theorem natAbs_tdiv (r : Int) : (r.tdiv 10).natAbs = r.natAbs / 10 := by rw [Int.natAbs_tdiv]; rfl

theorem decDigits_last (u : Nat) : decDigits u = (if u / 10 = 0 then [] else decDigits (u / 10)) ++ [UInt8.ofNat (48 + u % 10)] := by
  rw [decDigits]
  by_cases h : u < 10
  · rw [dif_pos h, if_pos (by omega), List.nil_append, Nat.mod_eq_of_lt h]
  · rw [dif_neg h, if_neg (by omega)]

theorem Dig.step {n : Int} {xs : List UInt8} {r : Int} (h : Dig n xs r) (hr : xs = [] ∨ r ≠ 0) : Dig n (UInt8.ofNat (48 + r.natAbs % 10) :: xs) (r.tdiv 10) := by
  have h0 : (r.tdiv 10 = 0) ↔ r.natAbs / 10 = 0 := by rw [← natAbs_tdiv]; exact Int.natAbs_eq_zero.symm
  refine .inr ⟨by simp, ?_⟩
  have e : (if r.tdiv 10 = 0 then [] else decDigits (r.tdiv 10).natAbs) ++ UInt8.ofNat (48 + r.natAbs % 10) :: xs = decDigits r.natAbs ++ xs := by
    rw [decDigits_last r.natAbs, natAbs_tdiv, List.append_assoc]
    by_cases c : r.natAbs / 10 = 0
    · rw [if_pos (h0.2 c), if_pos c]; rfl
    · rw [if_neg (fun hh => c (h0.1 hh)), if_neg c]; rfl
  rw [e]
  rcases h with ⟨rfl, rfl⟩ | ⟨hx, h⟩
  · rw [List.append_nil]
  · rcases hr with hr | hr
    · exact absurd hr hx
    · rw [h, if_neg hr]

theorem Dig.done {n : Int} {xs : List UInt8} (h : Dig n xs 0) (hx : xs ≠ []) : xs = decDigits n.natAbs := by
  rcases h with ⟨h, -⟩ | ⟨-, h⟩
  · exact absurd h hx
  · rw [h, if_pos rfl, List.nil_append]

theorem itoa_parts (n : Int) : itoa n = (if n < 0 then [45] else []) ++ decDigits n.natAbs := by
  unfold itoa
  by_cases h : n < 0
  · rw [if_pos h, if_pos h]; rfl
  · rw [if_neg h, if_neg h, List.nil_append]
    congr 1; omega

/-- the room that is left for digits -/
theorem digit_room {r : Int} {m : Nat} (h : r.natAbs < 10 ^ (19 - m) ∧ m ≤ 19) (hc : m = 0 ∨ r ≠ 0) : (r.tdiv 10).natAbs < 10 ^ (19 - (1 + m)) ∧ 1 + m ≤ 19 := by
  obtain ⟨h1, h2⟩ := h
  have hm : m ≤ 18 := by
    rcases Nat.lt_or_ge 18 m with h | h
    · obtain rfl : m = 19 := by omega
      have : (10 : Nat) ^ (19 - 19) = 1 := by decide
      omega
    · exact h
  refine ⟨?_, by omega⟩
  have e : 10 ^ (19 - m) = 10 * 10 ^ (19 - (1 + m)) := by
    rw [show 19 - m = (19 - (1 + m)) + 1 by omega, Nat.pow_succ, Nat.mul_comm]
  rw [natAbs_tdiv]
  omega

theorem natAbs_tmod10 (r : Int) : (r.tmod 10).natAbs = r.natAbs % 10 := Int.natAbs_tmod r 10
theorem digit_byte (r : Int) : 0 ≤ r.tmod 10 → (48 : Int) + r.tmod 10 = ((UInt8.ofNat (48 + r.natAbs % 10)).toNat : Int) := by
  intro h
  have := natAbs_tmod10 r
  rw [UInt8.toNat_ofNat']; omega
theorem digit_byte_neg (r : Int) : r.tmod 10 < 0 → (48 : Int) + -r.tmod 10 = ((UInt8.ofNat (48 + r.natAbs % 10)).toNat : Int) := by
  intro h
  have := natAbs_tmod10 r
  rw [UInt8.toNat_ofNat']; omega

end Go.Proofs.YtjjcljdbmgjoeaaDoor
