/- Hexadecimal digits in plain Lean. -/
import GoSem.Claims
import Derived.RowKit
namespace Go.Proofs.YtlhhedmammjieaaDoor

/-- one hexadecimal digit -/
def hexDig (d : Nat) : UInt8 := if d < 10 then UInt8.ofNat (48 + d) else UInt8.ofNat (87 + d)
/-- the last k digits of n -/
def hexPad : Nat → Nat → List UInt8
  | 0, _ => []
  | k + 1, n => hexPad k (n / 16) ++ [hexDig (n % 16)]
/-- the digits of n, no zeros ahead -/
def hexNum (n : Nat) : List UInt8 := if n < 16 then [hexDig n] else hexNum (n / 16) ++ [hexDig (n % 16)]
termination_by n
decreasing_by omega

theorem hexPad_length : ∀ k n, (hexPad k n).length = k
  | 0, _ => rfl
  | k + 1, n => by rw [hexPad, List.length_append, hexPad_length k]; rfl

theorem hexPad_zero : ∀ k, hexPad k 0 = List.replicate k 48
  | 0 => rfl
  | k + 1 => by
    rw [hexPad, Nat.zero_div, hexPad_zero k, List.replicate_succ']
    rfl

theorem hexNum_ne (n : Nat) : hexNum n ≠ [] := by
  rw [hexNum]; split <;> simp

theorem hexNum_length : ∀ k n, n < 16 ^ (k + 1) → (hexNum n).length ≤ k + 1
  | 0, n, h => by rw [hexNum, if_pos (by omega)]; simp
  | k + 1, n, h => by
    rw [hexNum]
    split
    · simp
    · have hp : 16 ^ (k + 1 + 1) = 16 * 16 ^ (k + 1) := by rw [Nat.pow_succ, Nat.mul_comm]
      have := hexNum_length k (n / 16) (by omega)
      rw [List.length_append]
      simp only [List.length_cons, List.length_nil]
      omega

theorem hexPad_num : ∀ k n, n < 16 ^ (k + 1) → List.replicate (k + 1 - (hexNum n).length) 48 ++ hexNum n = hexPad (k + 1) n
  | 0, n, h => by
    have h' : n < 16 := by omega
    rw [hexNum, if_pos h']
    show [hexDig n] = [] ++ [hexDig (n % 16)]
    rw [Nat.mod_eq_of_lt h']; rfl
  | k + 1, n, h => by
    have hp : 16 ^ (k + 1 + 1) = 16 * 16 ^ (k + 1) := by rw [Nat.pow_succ, Nat.mul_comm]
    rw [hexNum, hexPad]
    by_cases hn : n < 16
    · rw [if_pos hn, Nat.div_eq_of_lt hn, hexPad_zero, Nat.mod_eq_of_lt hn]
      rfl
    · rw [if_neg hn, ← hexPad_num k (n / 16) (by omega), ← List.append_assoc]
      congr 3
      rw [List.length_append]
      simp only [List.length_cons, List.length_nil]
      omega

/-- the digits from the right: what the loop has laid and what is left -/
theorem hexNum_step (u : Nat) (ys : List UInt8) (h : 16 ≤ u) : hexNum u ++ ys = hexNum (u / 16) ++ hexDig (u % 16) :: ys := by
  rw [hexNum, if_neg (by omega), List.append_assoc]; rfl
theorem hexNum_end (u : Nat) (h : u < 16) : hexNum u = [hexDig u] := by rw [hexNum, if_pos h]

end Go.Proofs.YtlhhedmammjieaaDoor
