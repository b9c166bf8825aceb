/- strconv.ParseUint at base 16 and 32 bits: eight lower-case digits give their number; else some answer. -/
import Derived.Test.YtlhhedmammjieaaDoorProg
import Derived.Test.YtlhhedmammjieaaDoorHexPlain
import Derived.Lib.Strings
import Derived.Lib.Walk
import Derived.Lib.ConvBytes
import Derived.Lib.AtoiAllMem
import Derived.Lib.Hide
import Derived.Laws.Strings3
import Derived.Laws.Closers25
import Derived.Laws.Closers25b
import Derived.WalkKit
import Derived.BigCall
import Derived.BigGuard
import Derived.Handy
namespace Go.Proofs.YtlhhedmammjieaaDoor
open Go.RowKit

/-- the text is m in eight lower-case digits -/
def Good (bs : List UInt8) (m : Nat) : Prop := m < 4294967296 ∧ bs = hexPad 8 m

theorem hexPad_get : ∀ (k n i : Nat) (c : UInt8), (hexPad k n)[i]? = some c → i < k ∧ c = hexDig (n / 16 ^ (k - (i + 1)) % 16)
  | 0, n, i, c, h => by simp [hexPad] at h
  | k + 1, n, i, c, h => by
    rw [hexPad, List.getElem?_append, hexPad_length] at h
    split at h
    · rename_i hi
      obtain ⟨h1, h2⟩ := hexPad_get k (n / 16) i c h
      refine ⟨by omega, ?_⟩
      rw [h2, Nat.div_div_eq_div_mul, ← Nat.pow_succ', show (k - (i + 1)).succ = k + 1 - (i + 1) by omega]
    · rename_i hi
      have hlt : i - k = 0 := by
        rcases Nat.eq_zero_or_pos (i - k) with h' | h'
        · exact h'
        · rw [List.getElem?_eq_none (by simp; omega)] at h; cases h
      rw [hlt] at h
      have e : i = k := by omega
      refine ⟨by omega, ?_⟩
      simp at h
      rw [← h, show k + 1 - (i + 1) = 0 by omega, Nat.pow_zero, Nat.div_one]

theorem good_step {bs : List UInt8} {m k : Nat} {c : UInt8} (h : Good bs m) (hk : bs[k]? = some c) : k < 8 ∧ ∃ q, q < 16 ∧ c = hexDig q ∧ m / 16 ^ (8 - (k + 1)) = 16 * (m / 16 ^ (8 - k)) + q := by
  obtain ⟨hm, rfl⟩ := h
  obtain ⟨h1, h2⟩ := hexPad_get 8 m k c hk
  refine ⟨h1, m / 16 ^ (8 - (k + 1)) % 16, Nat.mod_lt _ (by decide), h2, ?_⟩
  have e : m / 16 ^ (8 - k) = m / 16 ^ (8 - (k + 1)) / 16 := by
    rw [Nat.div_div_eq_div_mul, ← Nat.pow_succ, show (8 - (k + 1)).succ = 8 - k by omega]
  rw [e]; omega

theorem hexDig_small {q : Nat} (h : q < 10) : (hexDig q).toNat = 48 + q := by
  unfold hexDig; rw [if_pos h, UInt8.toNat_ofNat']; omega
theorem hexDig_great {q : Nat} (h : ¬ q < 10) (h' : q < 16) : (hexDig q).toNat = 87 + q := by
  unfold hexDig; rw [if_neg h, UInt8.toNat_ofNat']; omega
theorem lower_great : ∀ q : Fin 16, 10 ≤ q.val → bits BinOp.or .u8 ((87 + q.val : Nat) : Int) 32 = ((87 + q.val : Nat) : Int) := by decide

/-- what ParseUint leaves -/
def PU (bs : List UInt8) (e : Ending) : Prop := ∃ (n : Int) (ev : Value), e = .returned (.tuple #[.int .u64 n, ev]) ∧ (ev = .nilIface ∨ ev = .iface 86 (.int .i64 1) ∨ ev = .iface 86 (.int .i64 2)) ∧ 0 ≤ n ∧ n ≤ 4294967295 ∧ ∀ m, Good bs m → n = (m : Int) ∧ ev = .nilIface

end Go.Proofs.YtlhhedmammjieaaDoor
