/- The value that a decimal numeral spells: Go's parse against a fold over the digits. -/
import Derived.Lib.ItoaMem
import Derived.Lib.ParseIntB
import Derived.Test.YtjjcljdbmgjoeaaDoorDecPlain
namespace Go.Proofs.YtjjcljdbmgjoeaaDoor
open Go.Lib

/-- what digits spell behind acc -/
def dval (acc : Nat) (l : List UInt8) : Nat := l.foldl (fun a c => if 48 ≤ c.toNat ∧ c.toNat ≤ 57 then 10 * a + (c.toNat - 48) else a) acc

def isDig (c : UInt8) : Prop := 48 ≤ c.toNat ∧ c.toNat ≤ 57

theorem dval_nil (a : Nat) : dval a [] = a := rfl
theorem dval_cons (a : Nat) (c : UInt8) (l : List UInt8) : dval a (c :: l) = dval (if 48 ≤ c.toNat ∧ c.toNat ≤ 57 then 10 * a + (c.toNat - 48) else a) l := rfl
theorem dval_append (a : Nat) (l r : List UInt8) : dval a (l ++ r) = dval (dval a l) r := List.foldl_append
theorem dval_snoc (a : Nat) (l : List UInt8) (c : UInt8) : dval a (l ++ [c]) = if 48 ≤ c.toNat ∧ c.toNat ≤ 57 then 10 * dval a l + (c.toNat - 48) else dval a l := by
  rw [dval_append]; rfl

theorem dval_ge : ∀ (l : List UInt8) (a : Nat), a ≤ dval a l
  | [], a => Nat.le_refl _
  | c :: l, a => by
    rw [dval_cons]
    refine Nat.le_trans ?_ (dval_ge l _)
    split <;> omega

theorem dval_lt : ∀ (l : List UInt8) (k : Nat) (a : Nat), a < 10 ^ k → dval a l < 10 ^ (k + l.length)
  | [], k, a, h => by rw [dval_nil]; simpa using h
  | c :: l, k, a, h => by
    rw [dval_cons]
    have e : k + (c :: l).length = (k + 1) + l.length := by simp; omega
    rw [e]
    have hp : 10 ^ (k + 1) = 10 * 10 ^ k := by rw [Nat.pow_succ, Nat.mul_comm]
    refine dval_lt l (k + 1) _ ?_
    split <;> omega

theorem digit_toNat (u : Nat) (h : u < 10) : (UInt8.ofNat (48 + u)).toNat = 48 + u := by
  rw [UInt8.toNat_ofNat']; omega

theorem decDigits_all : ∀ u : Nat, ∀ c ∈ decDigits u, isDig c := by
  intro u
  induction u using Nat.strongRecOn with
  | _ u ih =>
    intro c hc
    rw [decDigits_last] at hc
    rcases List.mem_append.1 hc with hc | hc
    · by_cases h : u / 10 = 0
      · rw [if_pos h] at hc; cases hc
      · rw [if_neg h] at hc; exact ih (u / 10) (by omega) c hc
    · obtain rfl := List.mem_singleton.1 hc
      have e := digit_toNat (u % 10) (by omega)
      unfold isDig
      omega

theorem dval_decDigits : ∀ u : Nat, dval 0 (decDigits u) = u := by
  intro u
  induction u using Nat.strongRecOn with
  | _ u ih =>
    rw [decDigits_last, dval_snoc, if_pos (by rw [digit_toNat _ (by omega)]; omega), digit_toNat _ (by omega)]
    by_cases h : u / 10 = 0
    · rw [if_pos h, dval_nil]; omega
    · rw [if_neg h, ih (u / 10) (by omega)]; omega

theorem decDigits_ne (u : Nat) : decDigits u ≠ [] := by
  rw [decDigits_last]; simp

theorem decDigits_length : ∀ (k u : Nat), u < 10 ^ (k + 1) → (decDigits u).length ≤ k + 1
  | 0, u, h => by rw [decDigits_last, if_pos (by omega)]; simp
  | k + 1, u, h => by
    rw [decDigits_last]
    have hp : 10 ^ (k + 1 + 1) = 10 * 10 ^ (k + 1) := by rw [Nat.pow_succ, Nat.mul_comm]
    have := decDigits_length k (u / 10) (by omega)
    split <;> simp <;> omega

theorem parseUintM_digits (M : Nat) (hM : M ≤ 18446744073709551615) : ∀ (l : List UInt8) (a : Nat), (∀ c ∈ l, isDig c) → dval a l ≤ M → parseUintM M a l = .ok (dval a l)
  | [], a, _, _ => rfl
  | c :: l, a, hd, h => by
    have hc : 48 ≤ c.toNat ∧ c.toNat ≤ 57 := hd c (List.mem_cons_self ..)
    rw [dval_cons, if_pos hc] at h ⊢
    have hg := dval_ge l (10 * a + (c.toNat - 48))
    rw [parseUintM, if_pos hc, if_neg (by omega), if_neg (by omega), Nat.mul_comm a 10]
    exact parseUintM_digits M hM l _ (fun x hx => hd x (List.mem_cons_of_mem _ hx)) h

theorem parse_itoa (v : Int) (h0 : -1000000000000000 ≤ v) (h1 : v ≤ 1000000000000000) : parseIntB 64 (itoa v) = .ok v := by
  have hD := decDigits_all v.natAbs
  have hv := dval_decDigits v.natAbs
  have hne := decDigits_ne v.natAbs
  have hP : parseUintB 64 (decDigits v.natAbs) = .ok v.natAbs := by
    unfold parseUintB
    have e64 : (2 ^ 64 - 1 : Nat) = 18446744073709551615 := by decide
    rw [if_neg hne, parseUintM_digits _ (by decide) _ _ hD (by rw [hv, e64]; omega), hv]
  have e63 : (2 : Nat) ^ (64 - 1) = 9223372036854775808 := by decide
  rw [itoa_parts]
  by_cases hn : v < 0
  · rw [if_pos hn]
    show parseIntB 64 (45 :: decDigits v.natAbs) = _
    unfold parseIntB
    simp only [show (45 : UInt8).toNat = 45 from rfl, or_true, if_true, hP, not_true_eq_false, false_and, if_false, true_and]
    rw [e63, if_neg (by omega)]
    congr 1; omega
  · rw [if_neg hn, List.nil_append]
    cases hl : decDigits v.natAbs with
    | nil => exact absurd hl hne
    | cons c r =>
      have hc : 48 ≤ c.toNat ∧ c.toNat ≤ 57 := hD c (by rw [hl]; exact List.mem_cons_self ..)
      unfold parseIntB
      have h1' : ¬ c.toNat = 43 := by omega
      have h2' : ¬ c.toNat = 45 := by omega
      simp only [h1', h2', or_self, if_false, ← hl, hP, not_false_eq_true, true_and, false_and]
      rw [e63, if_neg (by omega)]
      congr 1; omega

/-- the number that the fold over all digits gives, with the sign of the first byte -/
def foldVal (t : List UInt8) : Int := if t.head? = some 45 then -(dval 0 t : Int) else dval 0 t

theorem foldVal_itoa (v : Int) : foldVal (itoa v) = v := by
  have hv := dval_decDigits v.natAbs
  unfold foldVal
  rw [itoa_parts]
  by_cases hn : v < 0
  · rw [if_pos hn]
    have e : dval 0 ([45] ++ decDigits v.natAbs) = v.natAbs := hv
    rw [e, if_pos (by simp)]; omega
  · rw [if_neg hn, List.nil_append, hv]
    rw [if_neg]
    · omega
    · intro h
      cases hl : decDigits v.natAbs with
      | nil => exact absurd hl (decDigits_ne _)
      | cons c r =>
        rw [hl] at h
        have hc : 48 ≤ c.toNat ∧ c.toNat ≤ 57 := decDigits_all v.natAbs c (by rw [hl]; exact List.mem_cons_self ..)
        have : c = 45 := by simpa using h
        rw [this] at hc
        exact absurd hc (by decide)

theorem itoa_length17 (v : Int) (h0 : -1000000000000000 ≤ v) (h1 : v ≤ 1000000000000000) : 1 ≤ (itoa v).length ∧ (itoa v).length ≤ 17 := by
  have e15 : (10 : Nat) ^ (15 + 1) = 10000000000000000 := by decide
  have h := decDigits_length 15 v.natAbs (by rw [e15]; omega)
  have hne := decDigits_ne v.natAbs
  have : 0 < (decDigits v.natAbs).length := List.length_pos_iff.2 hne
  rw [itoa_parts]
  split <;> simp <;> omega

/-- what both answer: the number and whether there is one -/
def rdec (t : List UInt8) : Int × Bool := if -1000000000000000 ≤ foldVal t ∧ foldVal t ≤ 1000000000000000 ∧ itoa (foldVal t) = t then (foldVal t, true) else (0, false)

theorem rdec_of_parse {t : List UInt8} {v : Int} (h : parseIntB 64 t = .ok v) : rdec t = if -1000000000000000 ≤ v ∧ v ≤ 1000000000000000 ∧ itoa v = t then (v, true) else (0, false) := by
  unfold rdec
  by_cases c : -1000000000000000 ≤ v ∧ v ≤ 1000000000000000 ∧ itoa v = t
  · have e : foldVal t = v := by rw [← c.2.2]; exact foldVal_itoa v
    rw [e, if_pos c]
  · rw [if_neg c, if_neg]
    rintro ⟨h0, h1, h2⟩
    have := parse_itoa _ h0 h1
    rw [h2, h] at this
    obtain rfl : v = foldVal t := by injection this
    exact c ⟨h0, h1, h2⟩

theorem rdec_of_no {t : List UInt8} (h : ∀ v, parseIntB 64 t ≠ .ok v) : rdec t = (0, false) := by
  unfold rdec
  rw [if_neg]
  rintro ⟨h0, h1, h2⟩
  have := parse_itoa _ h0 h1
  rw [h2] at this
  exact h _ this

theorem rdec_of_length {t : List UInt8} (h : t.length < 1 ∨ 17 < t.length) : rdec t = (0, false) := by
  unfold rdec
  rw [if_neg]
  rintro ⟨h0, h1, h2⟩
  have := itoa_length17 _ h0 h1
  rw [h2] at this
  omega

end Go.Proofs.YtjjcljdbmgjoeaaDoor
