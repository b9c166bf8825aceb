/- The product and the sum of positive float64 words of middle size, reckoned in few steps. -/
import Derived.Test.YtdomcjiiilbajaaFast
namespace Go.Proofs.Ytdomcjiiilbajaa
open Go.RowKit
open Ieee

def fy {α : Type} (n : Nat) (k : Nat → α) : α := Nat.rec (k 0) (fun m _ => k (Nat.succ m)) n
theorem fy_eq {α : Type} (n : Nat) (k : Nat → α) : fy n k = k n := by cases n <;> rfl

/-- the word lies between 2 ^ -255 and 2 ^ 256 -/
def midB (a : Nat) : Bool := Nat.ble 3458764513820540928 a && Nat.ble a 5760103923406864383
theorem midB_iff (a : Nat) : midB a = true ↔ 3458764513820540928 ≤ a ∧ a ≤ 5760103923406864383 := by
  unfold midB
  rw [Bool.and_eq_true]
  exact ⟨fun h => ⟨Nat.le_of_ble_eq_true h.1, Nat.le_of_ble_eq_true h.2⟩, fun h => ⟨Nat.ble_eq_true_of_le h.1, Nat.ble_eq_true_of_le h.2⟩⟩

def cutQ (n g : Nat) : Nat := Nat.div (Nat.add n (Nat.add (Nat.sub (Nat.div g 2) 1) (Nat.mod (Nat.div n g) 2))) g

theorem cutQ_eq (n d : Nat) : cutQ n (2 ^ (d + 1)) = cutF n (d + 1) := by
  unfold cutF cutQ
  simp only [fz_eq]
  show (n + ((2 ^ (d + 1) / 2 - 1) + n / 2 ^ (d + 1) % 2)) / 2 ^ (d + 1) = _
  have hp := Nat.two_pow_pos d
  rw [show 2 ^ (d + 1) / 2 = 2 ^ d by rw [Nat.pow_succ]; omega]
  have hg : 2 ^ (d + 1) = 2 * 2 ^ d := by rw [Nat.pow_succ]; omega
  have hm := Nat.div_add_mod n (2 ^ (d + 1))
  have hl := Nat.mod_lt n (show 2 ^ (d + 1) > 0 by omega)
  generalize n / 2 ^ (d + 1) = q at *
  generalize n % 2 ^ (d + 1) = r at *
  generalize 2 ^ d = h at *
  have e1 : n + (h - 1 + q % 2) = (r + (h - 1 + q % 2)) + 2 ^ (d + 1) * q := by omega
  rw [e1, Nat.add_mul_div_left _ _ (by omega), hg]
  have h2 := Nat.mod_two_eq_zero_or_one q
  by_cases c1 : 2 * h < 2 * r
  · rw [(blt_iff _ _).2 c1, cond_true]
    have : (r + (h - 1 + q % 2)) / (2 * h) = 1 := by
      rw [Nat.div_eq_iff (by omega)]; omega
    omega
  · have e : Nat.blt (2 * h) (2 * r) = false := by rw [Bool.eq_false_iff]; intro hh; exact c1 ((blt_iff _ _).1 hh)
    rw [e, cond_false]
    by_cases c2 : 2 * h = 2 * r
    · have e : Nat.beq (2 * h) (2 * r) = true := by rw [Nat.beq_eq]; exact c2
      rw [e, cond_true]
      rcases h2 with h2 | h2
      · have : (r + (h - 1 + q % 2)) / (2 * h) = 0 := Nat.div_eq_of_lt (by omega)
        omega
      · have : (r + (h - 1 + q % 2)) / (2 * h) = 1 := by
          rw [Nat.div_eq_iff (by omega)]; omega
        omega
    · have e : Nat.beq (2 * h) (2 * r) = false := by rw [Bool.eq_false_iff]; intro hh; exact c2 (Nat.eq_of_beq_eq_true hh)
      rw [e, cond_false]
      have : (r + (h - 1 + q % 2)) / (2 * h) = 0 := Nat.div_eq_of_lt (by omega)
      omega

theorem nearF_at (s M B L : Nat) (hM : M ≠ 0) (hL : Nat.log2 M = L) (h52 : 52 ≤ L) (hr : (B + L - 52) * 4503599627370496 + cutF M (L - 52) ≤ 9218868437227405312) :
    nearF s M B = s + ((B + L - 52) * 4503599627370496 + cutF M (L - 52)) := by
  unfold nearF
  have e : Nat.beq M 0 = false := by rw [Bool.eq_false_iff]; intro h; exact hM (Nat.eq_of_beq_eq_true h)
  rw [e, cond_false]
  simp only [fz_eq]
  rw [hL, show B - (B + L - 52) = 0 by omega, show B + L - 52 - B = L - 52 by omega, Nat.shiftLeft_zero, Nat.ble_eq_true_of_le hr, cond_true]

theorem cutF_le (n d b : Nat) (h : n < b * 2 ^ d) : cutF n d ≤ b := by
  unfold cutF
  simp only [fz_eq]
  have hp := Nat.two_pow_pos d
  have : n / 2 ^ d < b := by rw [Nat.div_lt_iff_lt_mul hp]; exact h
  have := Nat.mod_two_eq_zero_or_one (n / 2 ^ d)
  cases Nat.blt (2 ^ d) (2 * (n % 2 ^ d))
  · cases Nat.beq (2 ^ d) (2 * (n % 2 ^ d))
    · show n / 2 ^ d ≤ b
      omega
    · show n / 2 ^ d + n / 2 ^ d % 2 ≤ b
      omega
  · show n / 2 ^ d + 1 ≤ b
    omega

theorem mid_parts (a : Nat) (h : 3458764513820540928 ≤ a ∧ a ≤ 5760103923406864383) : a % 9223372036854775808 = a ∧ a / 9223372036854775808 = 0 ∧ rdM a = a % 4503599627370496 + 4503599627370496 ∧ rdP a = a / 4503599627370496 - 1 ∧ 768 ≤ a / 4503599627370496 ∧ a / 4503599627370496 ≤ 1278 := by
  refine ⟨by omega, by omega, ?_, rfl, by omega, by omega⟩
  unfold rdM
  have e : Nat.blt a 4503599627370496 = false := by rw [Bool.eq_false_iff]; intro hh; have := (blt_iff _ _).1 hh; omega
  rw [e, cond_false]; omega

def mulP (a b : Nat) : Nat :=
  bif midB a && midB b then
    fy (Nat.mul (Nat.add (Nat.mod a 4503599627370496) 4503599627370496) (Nat.add (Nat.mod b 4503599627370496) 4503599627370496)) fun M =>
    fy (Nat.add (Nat.div a 4503599627370496) (Nat.div b 4503599627370496)) fun E =>
      bif Nat.ble 40564819207303340847894502572032 M then Nat.add (Nat.mul (Nat.sub E 1023) 4503599627370496) (cutQ M 9007199254740992)
      else Nat.add (Nat.mul (Nat.sub E 1024) 4503599627370496) (cutQ M 4503599627370496)
  else mulF a b

theorem mulP_false (a b : Nat) (h : (midB a && midB b) = false) : mulP a b = mulF a b := by
  unfold mulP
  rw [h, cond_false]

theorem fit_gen (x y b c d e : Nat) (h1 : x ≤ b) (h2 : y ≤ d) (h3 : b * c + d ≤ e) : x * c + y ≤ e := by
  have := Nat.mul_le_mul_right c h1
  omega

/-- the product of magnitudes M at the place B, both ways -/
theorem mulP_core (M E : Nat) (h1 : 20282409603651670423947251286016 ≤ M) (h2 : M < 81129638414606681695789005144064) (e1 : 1536 ≤ E) (e2 : E ≤ 2556) :
    nearF 0 M (E - 2 - 1074) = (bif Nat.ble 40564819207303340847894502572032 M then Nat.add (Nat.mul (Nat.sub E 1023) 4503599627370496) (cutQ M 9007199254740992) else Nat.add (Nat.mul (Nat.sub E 1024) 4503599627370496) (cutQ M 4503599627370496)) := by
  by_cases c : 40564819207303340847894502572032 ≤ M
  · have hL : Nat.log2 M = 105 := Flt.log2_unique (by rw [show (2 : Nat) ^ 105 = 40564819207303340847894502572032 by decide]; exact c) (by rw [show (2 : Nat) ^ (105 + 1) = 81129638414606681695789005144064 by decide]; exact h2)
    have hc : cutF M 53 ≤ 9007199254740992 := cutF_le M 53 _ (by rw [show 9007199254740992 * 2 ^ 53 = 81129638414606681695789005144064 by decide]; exact h2)
    have hq := cutQ_eq M 52
    rw [show (2 : Nat) ^ (52 + 1) = 9007199254740992 by decide] at hq
    rw [Nat.ble_eq_true_of_le c, cond_true, nearF_at 0 M _ 105 (by omega) hL (by decide), hq, Nat.zero_add]
    · rw [show E - 2 - 1074 + 105 - 52 = E - 1023 by omega, Nat.add_eq, Nat.mul_eq, Nat.sub_eq]
    · rw [show E - 2 - 1074 + 105 - 52 = E - 1023 by omega]
      exact fit_gen _ _ 1533 4503599627370496 9007199254740992 _ (by omega) hc (by decide)
  · have hL : Nat.log2 M = 104 := Flt.log2_unique (by rw [show (2 : Nat) ^ 104 = 20282409603651670423947251286016 by decide]; exact h1) (by rw [show (2 : Nat) ^ (104 + 1) = 40564819207303340847894502572032 by decide]; omega)
    have hc : cutF M 52 ≤ 9007199254740992 := cutF_le M 52 _ (by rw [show 9007199254740992 * 2 ^ 52 = 40564819207303340847894502572032 by decide]; omega)
    have hq := cutQ_eq M 51
    rw [show (2 : Nat) ^ (51 + 1) = 4503599627370496 by decide] at hq
    have e : Nat.ble 40564819207303340847894502572032 M = false := by rw [Bool.eq_false_iff]; intro hh; exact c (Nat.le_of_ble_eq_true hh)
    rw [e, cond_false, nearF_at 0 M _ 104 (by omega) hL (by decide), hq, Nat.zero_add]
    · rw [show E - 2 - 1074 + 104 - 52 = E - 1024 by omega, Nat.add_eq, Nat.mul_eq, Nat.sub_eq]
    · rw [show E - 2 - 1074 + 104 - 52 = E - 1024 by omega]
      exact fit_gen _ _ 1532 4503599627370496 9007199254740992 _ (by omega) hc (by decide)

theorem mant_mul (m n : Nat) (h1 : m < 4503599627370496) (h2 : n < 4503599627370496) : 20282409603651670423947251286016 ≤ (m + 4503599627370496) * (n + 4503599627370496) ∧ (m + 4503599627370496) * (n + 4503599627370496) < 81129638414606681695789005144064 := by
  have a := Nat.mul_le_mul (show 4503599627370496 ≤ m + 4503599627370496 by omega) (show 4503599627370496 ≤ n + 4503599627370496 by omega)
  have b := Nat.mul_le_mul (show m + 4503599627370496 ≤ 9007199254740991 by omega) (show n + 4503599627370496 ≤ 9007199254740991 by omega)
  omega

theorem mulF_mid (a b : Nat) (h : midB a = true ∧ midB b = true) : mulF a b = nearF 0 ((a % 4503599627370496 + 4503599627370496) * (b % 4503599627370496 + 4503599627370496)) (a / 4503599627370496 + b / 4503599627370496 - 2 - 1074) := by
  rw [midB_iff, midB_iff] at h
  obtain ⟨a1, a2, a3, a4, a5, a6⟩ := mid_parts a h.1
  obtain ⟨b1, b2, b3, b4, b5, b6⟩ := mid_parts b h.2
  have g1 : Nat.blt a 9218868437227405312 = true := (blt_iff _ _).2 (by omega)
  have g2 : Nat.blt b 9218868437227405312 = true := (blt_iff _ _).2 (by omega)
  have g3 : Nat.ble 1074 (a / 4503599627370496 - 1 + (b / 4503599627370496 - 1)) = true := Nat.ble_eq_true_of_le (by omega)
  have g4 : a / 4503599627370496 - 1 + (b / 4503599627370496 - 1) - 1074 = a / 4503599627370496 + b / 4503599627370496 - 2 - 1074 := by omega
  unfold mulF
  simp only [fz_eq]
  rw [a1, b1, a2, b2, a3, b3, a4, b4, g1, g2, g3, g4, Bool.and_true, Bool.and_true, cond_true, if_neg (by decide)]

theorem mulP_eq (a b : Nat) : mulP a b = oF .mul a b := by
  rw [← mulF_eq]
  cases h : (midB a && midB b) with
  | false => exact mulP_false a b h
  | true =>
    have h' : midB a = true ∧ midB b = true := by rw [Bool.and_eq_true] at h; exact h
    obtain ⟨m1, m2⟩ := mant_mul (a % 4503599627370496) (b % 4503599627370496) (Nat.mod_lt _ (by decide)) (Nat.mod_lt _ (by decide))
    rw [mulF_mid a b h']
    rw [midB_iff, midB_iff] at h'
    obtain ⟨a1, a2, a3, a4, a5, a6⟩ := mid_parts a h'.1
    obtain ⟨b1, b2, b3, b4, b5, b6⟩ := mid_parts b h'.2
    rw [mulP_core _ _ m1 m2 (by omega) (by omega)]
    unfold mulP
    rw [h, cond_true, fy_eq, fy_eq]
    rfl

def addP (a b : Nat) : Nat :=
  bif midB a && midB b && Nat.ble (Nat.div b 4503599627370496) (Nat.div a 4503599627370496) then
    fy (Nat.pow 2 (Nat.sub (Nat.div a 4503599627370496) (Nat.div b 4503599627370496))) fun h =>
    fy (Nat.add (Nat.mul (Nat.add (Nat.mod a 4503599627370496) 4503599627370496) h) (Nat.add (Nat.mod b 4503599627370496) 4503599627370496)) fun S =>
      bif Nat.ble (Nat.mul 9007199254740992 h) S then Nat.add (Nat.mul (Nat.div a 4503599627370496) 4503599627370496) (cutQ S (Nat.mul 2 h))
      else Nat.add (Nat.mul (Nat.sub (Nat.div a 4503599627370496) 1) 4503599627370496) (cutQ S h)
  else addF a b

theorem pow52 (d : Nat) : (2 : Nat) ^ (d + 52) = 4503599627370496 * 2 ^ d ∧ (2 : Nat) ^ (d + 53) = 9007199254740992 * 2 ^ d ∧ (2 : Nat) ^ (d + 54) = 18014398509481984 * 2 ^ d := by
  exact ⟨by rw [Nat.pow_add, Nat.mul_comm, show (2 : Nat) ^ 52 = 4503599627370496 by decide], by rw [Nat.pow_add, Nat.mul_comm, show (2 : Nat) ^ 53 = 9007199254740992 by decide], by rw [Nat.pow_add, Nat.mul_comm, show (2 : Nat) ^ 54 = 18014398509481984 by decide]⟩

theorem mant_add (m n h : Nat) (h0 : 0 < h) (h1 : m < 4503599627370496) (h2 : n < 4503599627370496) : 4503599627370496 * h ≤ (m + 4503599627370496) * h + (n + 4503599627370496) ∧ (m + 4503599627370496) * h + (n + 4503599627370496) < 18014398509481984 * h ∧ (h = 1 → 9007199254740992 * h ≤ (m + 4503599627370496) * h + (n + 4503599627370496)) := by
  have a := Nat.mul_le_mul_right h (show 4503599627370496 ≤ m + 4503599627370496 by omega)
  have b := Nat.mul_le_mul_right h (show m + 4503599627370496 ≤ 9007199254740991 by omega)
  refine ⟨by omega, by omega, fun e => ?_⟩
  rw [e, Nat.mul_one, Nat.mul_one]
  exact Nat.le_trans (show 9007199254740992 ≤ 4503599627370496 + 4503599627370496 by decide) (Nat.add_le_add (Nat.le_add_left _ _) (Nat.le_add_left _ _))

theorem addP_core (S d ea eb : Nat) (hd : ea = eb + d) (h1 : 4503599627370496 * 2 ^ d ≤ S) (h2 : S < 18014398509481984 * 2 ^ d) (h3 : 2 ^ d = 1 → 9007199254740992 * 2 ^ d ≤ S) (e1 : 768 ≤ eb) (e2 : ea ≤ 1278) :
    nearF 0 S (eb - 1) = (bif Nat.ble (Nat.mul 9007199254740992 (2 ^ d)) S then Nat.add (Nat.mul ea 4503599627370496) (cutQ S (Nat.mul 2 (2 ^ d))) else Nat.add (Nat.mul (Nat.sub ea 1) 4503599627370496) (cutQ S (2 ^ d))) := by
  obtain ⟨p1, p2, p3⟩ := pow52 d
  have hp := Nat.two_pow_pos d
  by_cases c : 9007199254740992 * 2 ^ d ≤ S
  · have hL : Nat.log2 S = d + 53 := Flt.log2_unique (by rw [p2]; exact c) (by rw [show d + 53 + 1 = d + 54 from rfl, p3]; exact h2)
    have hc : cutF S (d + 1) ≤ 9007199254740992 := cutF_le S (d + 1) _ (by rw [Nat.pow_succ]; omega)
    have hq := cutQ_eq S d
    rw [Nat.mul_eq, Nat.ble_eq_true_of_le c, cond_true, nearF_at 0 S _ (d + 53) (by omega) hL (by omega), Nat.zero_add, Nat.mul_eq, Nat.mul_eq, show 2 * 2 ^ d = 2 ^ (d + 1) by rw [Nat.pow_succ, Nat.mul_comm], hq, Nat.add_eq, show eb - 1 + (d + 53) - 52 = ea by omega, show d + 53 - 52 = d + 1 by omega]
    rw [show eb - 1 + (d + 53) - 52 = ea by omega, show d + 53 - 52 = d + 1 by omega]
    exact fit_gen _ _ 1278 4503599627370496 9007199254740992 _ (by omega) hc (by decide)
  · have hd0 : d ≠ 0 := fun e => c (h3 (by rw [e]))
    obtain ⟨d', rfl⟩ : ∃ d', d = d' + 1 := ⟨d - 1, by omega⟩
    have hL : Nat.log2 S = d' + 1 + 52 := Flt.log2_unique (by rw [p1]; exact h1) (by rw [show d' + 1 + 52 + 1 = d' + 1 + 53 from rfl, p2]; omega)
    have hc : cutF S (d' + 1) ≤ 9007199254740992 := cutF_le S (d' + 1) _ (by omega)
    have hq := cutQ_eq S d'
    have e : Nat.ble (9007199254740992 * 2 ^ (d' + 1)) S = false := by rw [Bool.eq_false_iff]; intro hh; exact c (Nat.le_of_ble_eq_true hh)
    rw [Nat.mul_eq, e, cond_false, nearF_at 0 S _ (d' + 1 + 52) (by omega) hL (by omega), Nat.zero_add, Nat.mul_eq, hq, Nat.add_eq, Nat.sub_eq, show eb - 1 + (d' + 1 + 52) - 52 = ea - 1 by omega, show d' + 1 + 52 - 52 = d' + 1 by omega]
    rw [show eb - 1 + (d' + 1 + 52) - 52 = ea - 1 by omega, show d' + 1 + 52 - 52 = d' + 1 by omega]
    exact fit_gen _ _ 1278 4503599627370496 9007199254740992 _ (by omega) hc (by decide)

theorem addF_mid (a b : Nat) (h : midB a = true ∧ midB b = true) (hle : b / 4503599627370496 ≤ a / 4503599627370496) : addF a b = nearF 0 ((a % 4503599627370496 + 4503599627370496) * 2 ^ (a / 4503599627370496 - b / 4503599627370496) + (b % 4503599627370496 + 4503599627370496)) (b / 4503599627370496 - 1) := by
  rw [midB_iff, midB_iff] at h
  obtain ⟨a1, a2, a3, a4, a5, a6⟩ := mid_parts a h.1
  obtain ⟨b1, b2, b3, b4, b5, b6⟩ := mid_parts b h.2
  have g1 : Nat.blt a 9218868437227405312 = true := (blt_iff _ _).2 (by omega)
  have g2 : Nat.blt b 9218868437227405312 = true := (blt_iff _ _).2 (by omega)
  have g3 : Nat.min (a / 4503599627370496 - 1) (b / 4503599627370496 - 1) = b / 4503599627370496 - 1 := Nat.min_eq_right (by omega)
  have g4 : a / 4503599627370496 - 1 - (b / 4503599627370496 - 1) = a / 4503599627370496 - b / 4503599627370496 := by omega
  unfold addF sumF
  simp only [fz_eq]
  rw [a1, b1, a2, b2, a3, b3, a4, b4, g1, g2, g3, g4, Nat.sub_self, Nat.shiftLeft_zero, Nat.shiftLeft_eq, Bool.and_true, cond_true, show (0 % 2 == 1) = false by decide, beq_self_eq_true, cond_true, if_neg (by decide)]

theorem addP_false (a b : Nat) (h : (midB a && midB b && Nat.ble (Nat.div b 4503599627370496) (Nat.div a 4503599627370496)) = false) : addP a b = addF a b := by
  unfold addP
  rw [h, cond_false]

theorem addP_eq (a b : Nat) : addP a b = oF .add a b := by
  rw [← addF_eq]
  cases h : (midB a && midB b && Nat.ble (Nat.div b 4503599627370496) (Nat.div a 4503599627370496)) with
  | false => exact addP_false a b h
  | true =>
    have h' : (midB a = true ∧ midB b = true) ∧ Nat.ble (Nat.div b 4503599627370496) (Nat.div a 4503599627370496) = true := by rw [Bool.and_eq_true, Bool.and_eq_true] at h; exact h
    have hle : b / 4503599627370496 ≤ a / 4503599627370496 := Nat.le_of_ble_eq_true h'.2
    obtain ⟨m1, m2, m3⟩ := mant_add (a % 4503599627370496) (b % 4503599627370496) (2 ^ (a / 4503599627370496 - b / 4503599627370496)) (Nat.two_pow_pos _) (Nat.mod_lt _ (by decide)) (Nat.mod_lt _ (by decide))
    have h'' := h'.1
    rw [addF_mid a b h'.1 hle]
    rw [midB_iff, midB_iff] at h''
    obtain ⟨a1, a2, a3, a4, a5, a6⟩ := mid_parts a h''.1
    obtain ⟨b1, b2, b3, b4, b5, b6⟩ := mid_parts b h''.2
    rw [addP_core _ (a / 4503599627370496 - b / 4503599627370496) (a / 4503599627370496) (b / 4503599627370496) (by omega) m1 m2 m3 (by omega) (by omega)]
    unfold addP
    rw [h, cond_true, fy_eq, fy_eq]
    rfl

end Go.Proofs.Ytdomcjiiilbajaa
