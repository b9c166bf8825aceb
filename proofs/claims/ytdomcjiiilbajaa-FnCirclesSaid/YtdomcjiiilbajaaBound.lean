/- Bounds by powers of two on what float operations give, with no program in sight. -/
import Derived.Test.YtdomcjiiilbajaaFloat
namespace Go.Proofs.Ytdomcjiiilbajaa.Flt
open Ieee

/-- 'm * 2 ^ p ≤ 2 ^ k' -/
def Le2 (m : Nat) (p k : Int) : Prop := m = 0 ∨ ∃ n : Nat, p + n = k ∧ m ≤ 2 ^ n

theorem Le2.log {m : Nat} {p k : Int} (h : Le2 m p k) (hm : m ≠ 0) : (m.log2 : Int) + p ≤ k := by
  rcases h with h | ⟨n, h1, h2⟩
  · exact absurd h hm
  · have : m.log2 ≤ n := by
      apply Classical.byContradiction
      intro hc
      have a := log2_lo m hm
      have := Nat.pow_le_pow_right (show 0 < 2 by decide) (show n + 1 ≤ m.log2 by omega)
      rw [Nat.pow_succ] at this
      have := Nat.two_pow_pos n
      omega
    omega

theorem nearest_le (f : Format) (neg : Bool) (m : Nat) (p k : Int) (hk : f.leastPlace ≤ k - f.fractionBits - 1) (h : Le2 m p k) : rung f (f.nearest neg m p) ≤ pw f k := by
  by_cases hm : m = 0
  · exact nearest_below f neg m p k hk fun h => absurd hm h
  · have hl := h.log hm
    by_cases hlt : (m.log2 : Int) + p < k
    · exact nearest_below f neg m p k hk fun _ => hlt
    · rcases h with h | ⟨n, h1, h2⟩
      · exact absurd h hm
      · have hn : m.log2 = n := by omega
        have hm2 : m = 2 ^ n := by
          have := log2_lo m hm; rw [hn] at this; omega
        have hb := binade_pos f
        have hi := infRung_lt f
        have := nearest_grid f neg m (p - f.leastPlace) f.binade (k - f.fractionBits - f.leastPlace).toNat (by omega) (by omega) (.inr (Nat.le_refl _)) (by
          rw [hm2]
          unfold Format.binade
          rw [← Nat.pow_add, ← Nat.pow_add, ← Nat.pow_add]
          congr 1
          omega)
        rw [show f.leastPlace + (p - f.leastPlace) = p by omega] at this
        rw [this, rung_word f neg _ (by omega)]
        refine Nat.le_trans (Nat.min_le_left _ _) ?_
        unfold pw
        rw [show (k - f.fractionBits - f.leastPlace + 1).toNat = (k - f.fractionBits - f.leastPlace).toNat + 1 by omega, Nat.add_mul]
        omega

theorem mag_plc_val (f : Format) (r : Nat) : val f r = mag f r * 2 ^ plc f r := rfl

theorem val_pw (f : Format) (k : Int) (hk : f.leastPlace ≤ k - f.fractionBits) : val f (pw f k) = 2 ^ (k - f.leastPlace).toNat := by
  have hb := binade_pos f
  unfold val mag plc pw
  obtain ⟨c, hc⟩ : ∃ c : Nat, (k - f.fractionBits - f.leastPlace).toNat = c := ⟨_, rfl⟩
  rw [show (k - f.fractionBits - f.leastPlace + 1).toNat = c + 1 by omega]
  rw [if_neg (by rw [Nat.add_mul]; omega), Nat.mul_mod_left, Nat.mul_div_cancel _ hb, Nat.add_zero, Nat.add_sub_cancel]
  unfold Format.binade
  rw [← Nat.pow_add]
  congr 1
  omega

/-- A word whose rung is at most that of '2 ^ k' is a number that is at most '2 ^ k'. -/
theorem le_of_rung (f : Format) (b : Nat) (k : Int) (hk : f.leastPlace ≤ k - f.fractionBits) (h : rung f b ≤ pw f k) : Le2 (mag f (rung f b)) (f.leastPlace + plc f (rung f b)) k := by
  have h1 := val_le f h
  rw [val_pw f k hk, mag_plc_val] at h1
  by_cases hm : mag f (rung f b) = 0
  · exact .inl hm
  · right
    obtain ⟨m, hmm⟩ : ∃ m, m = mag f (rung f b) := ⟨_, rfl⟩
    obtain ⟨q, hq⟩ : ∃ q, q = plc f (rung f b) := ⟨_, rfl⟩
    rw [← hmm, ← hq] at h1 ⊢
    rw [← hmm] at hm
    have hqk : q ≤ (k - f.leastPlace).toNat := by
      apply Classical.byContradiction
      intro hc
      have := Nat.pow_lt_pow_right (show 1 < 2 by decide) (show (k - f.leastPlace).toNat < q by omega)
      have : 2 ^ q ≤ m * 2 ^ q := Nat.le_mul_of_pos_left _ (by omega)
      omega
    refine ⟨(k - f.leastPlace).toNat - q, by omega, ?_⟩
    apply Nat.le_of_mul_le_mul_right _ (Nat.two_pow_pos q)
    rw [← Nat.pow_add, Nat.sub_add_cancel hqk]
    exact h1

/-! ### Numbers with a bound -/

/-- v is a number of magnitude at most '2 ^ e'. -/
def Nb (k : FloatKind) (v : Option Nat) (e : Int) : Prop := ∃ b, v = some b ∧ rung k.format b ≤ pw k.format e

/-- The exponent lies well within the format. -/
def Rg (f : Format) (e : Int) : Prop := f.leastPlace ≤ e - f.fractionBits - 1 ∧ pw f e < f.infRung

theorem rg64 {e : Int} (h : -1021 ≤ e) (h' : e ≤ 1023) : Rg FloatKind.f64.format e := by
  have h1 : FloatKind.f64.format.leastPlace = -1074 := by decide
  have h2 : FloatKind.f64.format.fractionBits = 52 := rfl
  have h3 : FloatKind.f64.format.binade = 4503599627370496 := by decide
  have h4 : FloatKind.f64.format.infRung = 9218868437227405312 := by decide
  refine ⟨by rw [h1, h2]; omega, ?_⟩
  unfold pw
  rw [h1, h2, h3, h4]
  have : (e - ((52 : Nat) : Int) - -1074 + 1).toNat ≤ 2046 := by omega
  have := Nat.mul_le_mul_right 4503599627370496 this
  omega

theorem pw_mono (f : Format) {a b : Int} (h : a ≤ b) : pw f a ≤ pw f b := by
  unfold pw; exact Nat.mul_le_mul_right _ (by omega)

theorem Nb.mono {k : FloatKind} {v : Option Nat} {a b : Int} (h : Nb k v a) (hab : a ≤ b) : Nb k v b := by
  obtain ⟨x, h1, h2⟩ := h
  exact ⟨x, h1, Nat.le_trans h2 (pw_mono _ hab)⟩

theorem Le2.mul {m n : Nat} {p q a b : Int} (h : Le2 m p a) (h' : Le2 n q b) : Le2 (m * n) (p + q) (a + b) := by
  rcases h with h | ⟨x, h1, h2⟩
  · left; rw [h, Nat.zero_mul]
  rcases h' with h' | ⟨y, h3, h4⟩
  · left; rw [h', Nat.mul_zero]
  right
  exact ⟨x + y, by omega, by rw [Nat.pow_add]; exact Nat.mul_le_mul h2 h4⟩

theorem nearest_nb (k : FloatKind) (neg : Bool) (m : Nat) (p e : Int) (he : Rg k.format e) (h : Le2 m p e) : Nb k (some (k.format.nearest neg m p)) e :=
  ⟨_, rfl, nearest_le _ _ _ _ _ he.1 h⟩

theorem read_nb (k : FloatKind) (b : Nat) (e : Int) (he : Rg k.format e) (h : rung k.format b ≤ pw k.format e) :
    ∃ m p, k.format.read b = .number (sgn k.format b) m p ∧ Le2 m p e :=
  ⟨_, _, read_num _ b (Nat.lt_of_le_of_lt h he.2), le_of_rung _ b e (by have := he.1; omega) h⟩

theorem Nb.mul {k : FloatKind} {x y : Option Nat} {a b : Int} (hx : Nb k x a) (hy : Nb k y b) (ha : Rg k.format a) (hb : Rg k.format b) (hab : Rg k.format (a + b)) : Nb k (fop .mul k x y) (a + b) := by
  obtain ⟨u, rfl, h1⟩ := hx
  obtain ⟨v, rfl, h2⟩ := hy
  obtain ⟨m, p, e1, l1⟩ := read_nb k u a ha h1
  obtain ⟨n, q, e2, l2⟩ := read_nb k v b hb h2
  have : fop .mul k (some u) (some v) = some (k.format.nearest (sgn k.format u ^^ sgn k.format v) (m * n) (p + q)) := by
    show k.format.mul u v = _
    unfold Format.mul; rw [e1, e2]; rfl
  rw [this]
  exact nearest_nb k _ _ _ _ hab (l1.mul l2)

theorem signed_abs (s : Bool) (m u : Nat) : (signed s m u).natAbs = m * 2 ^ u := by
  rw [signed_val]
  generalize m * 2 ^ u = x
  cases s <;> simp

theorem Le2.shift {m : Nat} {p c e : Int} (h : Le2 m p e) (hc : c ≤ p) (hce : c ≤ e) : m * 2 ^ (p - c).toNat ≤ 2 ^ (e - c).toNat := by
  rcases h with h | ⟨x, h1, h2⟩
  · rw [h, Nat.zero_mul]; exact Nat.zero_le _
  · have := Nat.mul_le_mul_right (2 ^ (p - c).toNat) h2
    rw [← Nat.pow_add, show x + (p - c).toNat = (e - c).toNat by omega] at this
    exact this

theorem sum_nb (k : FloatKind) (s t : Bool) (m n : Nat) (p q e : Int) (he : Rg k.format (e + 1)) (h : Le2 m p e) (h' : Le2 n q e) : Nb k (((Datum.number s m p).sum (.number t n q)).map k.format.write) (e + 1) := by
  show Nb k (some (k.format.nearest _ _ _)) _
  refine nearest_nb k _ _ _ _ he ?_
  generalize hc : min p q = c
  by_cases h0 : (signed s m (p - c).toNat + signed t n (q - c).toNat).natAbs = 0
  · exact .inl h0
  · have hce : c ≤ e := by
      apply Classical.byContradiction
      intro hgt
      have hm : m = 0 := by
        rcases h with h | ⟨x, h1, _⟩
        · exact h
        · omega
      have hn : n = 0 := by
        rcases h' with h | ⟨x, h1, _⟩
        · exact h
        · omega
      apply h0
      rw [hm, hn, signed_val, signed_val]
      cases s <;> cases t <;> simp
    right
    refine ⟨(e + 1 - c).toNat, by omega, ?_⟩
    have h1 := h.shift (c := c) (by omega) hce
    have h2 := h'.shift (c := c) (by omega) hce
    rw [← signed_abs s] at h1
    rw [← signed_abs t] at h2
    rw [show (e + 1 - c).toNat = (e - c).toNat + 1 by omega, Nat.pow_succ]
    omega

theorem Nb.add {k : FloatKind} {x y : Option Nat} {a : Int} (hx : Nb k x a) (hy : Nb k y a) (ha : Rg k.format a) (hab : Rg k.format (a + 1)) : Nb k (fop .add k x y) (a + 1) := by
  obtain ⟨u, rfl, h1⟩ := hx
  obtain ⟨v, rfl, h2⟩ := hy
  obtain ⟨m, p, e1, l1⟩ := read_nb k u a ha h1
  obtain ⟨n, q, e2, l2⟩ := read_nb k v a ha h2
  show Nb k (k.format.add u v) _
  unfold Format.add; rw [e1, e2]
  exact sum_nb k _ _ _ _ _ _ _ hab l1 l2

theorem Nb.sub {k : FloatKind} {x y : Option Nat} {a : Int} (hx : Nb k x a) (hy : Nb k y a) (ha : Rg k.format a) (hab : Rg k.format (a + 1)) : Nb k (fop .sub k x y) (a + 1) := by
  obtain ⟨u, rfl, h1⟩ := hx
  obtain ⟨v, rfl, h2⟩ := hy
  obtain ⟨m, p, e1, l1⟩ := read_nb k u a ha h1
  obtain ⟨n, q, e2, l2⟩ := read_nb k v a ha h2
  show Nb k (k.format.sub u v) _
  unfold Format.sub; rw [e1, e2]
  exact sum_nb k _ _ _ _ _ _ _ hab l1 l2

/-- v is a number (or an infinity) of magnitude at least '2 ^ e'. -/
def Lb (k : FloatKind) (v : Option Nat) (e : Int) : Prop := ∃ b, v = some b ∧ pw k.format e ≤ rung k.format b ∧ rung k.format b ≤ k.format.infRung

/-- 'm * 2 ^ p' is at least '2 ^ e'. -/
def Ge2 (m : Nat) (p e : Int) : Prop := m ≠ 0 ∧ (e ≤ p ∨ ∃ n : Nat, p + n = e ∧ 2 ^ n ≤ m)

theorem ge_of_rung (f : Format) (b : Nat) (e : Int) (he : f.leastPlace ≤ e - f.fractionBits) (h : pw f e ≤ rung f b) : Ge2 (mag f (rung f b)) (f.leastPlace + plc f (rung f b)) e := by
  have h1 := val_le f h
  rw [val_pw f e he, mag_plc_val] at h1
  obtain ⟨m, hmm⟩ : ∃ m, m = mag f (rung f b) := ⟨_, rfl⟩
  obtain ⟨q, hq⟩ : ∃ q, q = plc f (rung f b) := ⟨_, rfl⟩
  rw [← hmm, ← hq] at h1 ⊢
  have hp := Nat.two_pow_pos (e - f.leastPlace).toNat
  refine ⟨by intro h; rw [h, Nat.zero_mul] at h1; omega, ?_⟩
  by_cases hqe : e ≤ f.leastPlace + q
  · exact .inl hqe
  · right
    refine ⟨(e - f.leastPlace).toNat - q, by omega, ?_⟩
    apply Nat.le_of_mul_le_mul_right _ (Nat.two_pow_pos q)
    rw [← Nat.pow_add, Nat.sub_add_cancel (by omega)]
    exact h1

theorem Nb.div {k : FloatKind} {x y : Option Nat} {a b : Int} (hx : Nb k x a) (hy : Lb k y b) (ha : Rg k.format a) (hb : k.format.leastPlace ≤ b - k.format.fractionBits) (hab : Rg k.format (a - b)) : Nb k (fop .quo k x y) (a - b) := by
  obtain ⟨u, rfl, h1⟩ := hx
  obtain ⟨v, rfl, h2, h3⟩ := hy
  obtain ⟨m, p, e1, l1⟩ := read_nb k u a ha h1
  show Nb k (k.format.div u v) _
  unfold Format.div
  rw [e1]
  rcases Nat.lt_or_eq_of_le h3 with h4 | h4
  · have e2 := read_num _ v h4
    obtain ⟨hn, hge⟩ := ge_of_rung _ v b hb h2
    rw [e2]
    generalize mag k.format (rung k.format v) = n at *
    generalize k.format.leastPlace + (plc k.format (rung k.format v) : Int) = q at *
    generalize sgn k.format v = t at *
    show Nb k (Option.map _ (if n = 0 then _ else _)) _
    rw [if_neg hn]
    refine nearest_nb k _ _ _ _ hab ?_
    generalize hmore : k.format.fractionBits + 2 + n.log2 - m.log2 = more
    by_cases hm : m = 0
    · left; rw [hm]; simp
    · right
      have hl := l1.log hm
      rcases l1 with l1 | ⟨c, lc1, lc2⟩
      · exact absurd l1 hm
      have hml := log2_lo m hm
      have hnl := log2_lo n hn
      have hnh := log2_hi n
      -- 2 ^ d ≤ n with q + d = b, or b ≤ q
      obtain ⟨d, hd1, hd2⟩ : ∃ d : Nat, b ≤ q + d ∧ 2 ^ d ≤ n ∧ d ≤ n.log2 := by
        rcases hge with hge | ⟨d, hd, hd'⟩
        · exact ⟨0, by omega, by omega, Nat.zero_le _⟩
        · refine ⟨d, by omega, hd', ?_⟩
          apply Classical.byContradiction
          intro hc
          have := Nat.pow_le_pow_right (show 0 < 2 by decide) (show n.log2 + 1 ≤ d by omega)
          omega
      obtain ⟨hd2, hd3⟩ := hd2
      have hclog : m.log2 ≤ c := by omega
      have hcm : n.log2 + k.format.fractionBits + 2 ≤ c + more := by omega
      refine ⟨(a - b - (p - q - more - 1)).toNat, by omega, ?_⟩
      have key : 2 * (m <<< more / n) + (m <<< more % n != 0).toNat ≤ 2 * 2 ^ (c + more - d) := by
        rw [Nat.shiftLeft_eq]
        have hD : m * 2 ^ more ≤ 2 ^ (c + more - d) * n := by
          have s1 := Nat.mul_le_mul_right (2 ^ more) lc2
          rw [← Nat.pow_add] at s1
          have s2 := Nat.mul_le_mul_left (2 ^ (c + more - d)) hd2
          rw [← Nat.pow_add, Nat.sub_add_cancel (by omega)] at s2
          exact Nat.le_trans s1 s2
        generalize m * 2 ^ more = D at *
        generalize 2 ^ (c + more - d) = B at *
        have hn0 : 0 < n := by omega
        have hdm := Nat.div_add_mod D n
        have hle : D / n ≤ B := (Nat.div_le_iff_le_mul_add_pred hn0).2 (by rw [Nat.mul_comm n B]; omega)
        rcases Nat.lt_or_eq_of_le hle with hlt | heq
        · have : (D % n != 0).toNat ≤ 1 := Bool.toNat_le _
          omega
        · have hz : D % n = 0 := by
            rw [heq, Nat.mul_comm n B] at hdm; omega
          rw [hz, heq]; simp
      refine Nat.le_trans key ?_
      rw [← Nat.pow_succ']
      exact Nat.pow_le_pow_right (by decide) (by omega)
  · have e2 := read_inf _ (ok k) v h4
    rw [e2]
    show Nb k (some (k.format.nearest _ 0 0)) _
    exact nearest_nb k _ _ _ _ hab (.inl rfl)

/-! ### Bounds from below -/

theorem cut_ge (neg : Bool) (n d b : Nat) (hb : b ≠ 0) (h : b * 2 ^ d ≤ n) : b ≤ Toward.even.cut neg n d := by
  have hp := Nat.two_pow_pos d
  have hn : n ≠ 0 := by
    intro e
    have : 0 < b * 2 ^ d := Nat.mul_pos (by omega) hp
    omega
  have hd : d ≤ n.log2 := by
    apply Classical.byContradiction
    intro hc
    have a := log2_hi n
    have := Nat.pow_le_pow_right (show 0 < 2 by decide) (show n.log2 + 1 ≤ d by omega)
    have : 2 ^ d ≤ b * 2 ^ d := Nat.le_mul_of_pos_left _ (by omega)
    omega
  unfold Toward.cut
  dsimp only
  rw [Nat.one_shiftLeft, Nat.min_eq_left (by omega)]
  have : b ≤ n / 2 ^ d := (Nat.le_div_iff_mul_le hp).2 h
  omega

theorem nearest_ge (f : Format) (neg : Bool) (m : Nat) (p e : Int) (he : f.leastPlace ≤ e - f.fractionBits) (hi : pw f e ≤ f.infRung) (hm : m ≠ 0) (h : e ≤ (m.log2 : Int) + p) :
    pw f e ≤ rung f (f.nearest neg m p) ∧ rung f (f.nearest neg m p) ≤ f.infRung := by
  refine ⟨?_, rung_nearest f neg m p⟩
  have hlt := infRung_lt f
  unfold Format.nearest
  dsimp only
  rw [if_neg hm, rung_word f neg _ (by omega)]
  refine Nat.le_min.2 ⟨?_, hi⟩
  have hlast : max (p + (m.log2 : Int) - f.fractionBits) f.leastPlace = p + (m.log2 : Int) - f.fractionBits := by omega
  rw [hlast]
  generalize hl : p + (m.log2 : Int) - f.fractionBits = last
  have hk : f.binade ≤ Toward.even.cut neg (m <<< (p - last).toNat) (last - p).toNat := by
    refine cut_ge _ _ _ _ (by have := binade_pos f; omega) ?_
    rw [Nat.shiftLeft_eq]
    unfold Format.binade
    rw [← Nat.pow_add]
    have := Nat.mul_le_mul_right (2 ^ (p - last).toNat) (log2_lo m hm)
    rw [← Nat.pow_add] at this
    refine Nat.le_trans (Nat.pow_le_pow_right (by decide) ?_) this
    omega
  have hq : (e - f.fractionBits - f.leastPlace).toNat ≤ (last - f.leastPlace).toNat := by omega
  have := Nat.mul_le_mul_right f.binade hq
  unfold pw
  rw [show (e - f.fractionBits - f.leastPlace + 1).toNat = (e - f.fractionBits - f.leastPlace).toNat + 1 by omega, Nat.add_mul]
  omega

theorem Ge2.shift {m : Nat} {p c e : Int} (h : Ge2 m p e) (hc : c ≤ p) : m * 2 ^ (p - c).toNat ≠ 0 ∧ e ≤ ((m * 2 ^ (p - c).toNat).log2 : Int) + c := by
  obtain ⟨hm, h⟩ := h
  have hp := Nat.two_pow_pos (p - c).toNat
  refine ⟨by have : 0 < m * 2 ^ (p - c).toNat := Nat.mul_pos (by omega) hp; omega, ?_⟩
  rw [log2_mul_pow m _ hm]
  rcases h with h | ⟨n, h1, h2⟩
  · omega
  · have : n ≤ m.log2 := by
      apply Classical.byContradiction
      intro hc
      have a := log2_hi m
      have := Nat.pow_le_pow_right (show 0 < 2 by decide) (show m.log2 + 1 ≤ n by omega)
      omega
    omega

theorem log2_mono {a b : Nat} (ha : a ≠ 0) (h : a ≤ b) : a.log2 ≤ b.log2 := by
  apply Classical.byContradiction
  intro hc
  have h1 := log2_lo a ha
  have h2 := log2_hi b
  have := Nat.pow_le_pow_right (show 0 < 2 by decide) (show b.log2 + 1 ≤ a.log2 by omega)
  omega

/-- v is not negative (nor a negative zero). -/
def Nn (k : FloatKind) (v : Option Nat) : Prop := ∀ b, v = some b → sgn k.format b = false

theorem sgn_nearest (f : Format) (neg : Bool) (m : Nat) (p : Int) : sgn f (f.nearest neg m p) = neg := by
  have := infRung_lt f
  unfold Format.nearest
  dsimp only
  split
  · rw [sgn_word f neg 0 (sign_pos f)]
  · rw [sgn_word f neg _ (by omega)]

theorem Nn.sq {k : FloatKind} {x : Option Nat} {a : Int} (hx : Nb k x a) (ha : Rg k.format a) : Nn k (fop .mul k x x) := by
  obtain ⟨u, rfl, h1⟩ := hx
  obtain ⟨m, p, e1, _⟩ := read_nb k u a ha h1
  intro b hb
  have : fop .mul k (some u) (some u) = some (k.format.nearest (sgn k.format u ^^ sgn k.format u) (m * m) (p + p)) := by
    show k.format.mul u u = _
    unfold Format.mul; rw [e1]; rfl
  rw [this] at hb
  cases hb
  rw [sgn_nearest]; cases sgn k.format u <;> rfl

/-- A sum of two numbers that are not negative. -/
theorem add_nn {k : FloatKind} {x y : Option Nat} {a b : Int} (hx : Nb k x a) (hy : Nb k y b) (ha : Rg k.format a) (hb : Rg k.format b) (nx : Nn k x) (ny : Nn k y) : Nn k (fop .add k x y) := by
  obtain ⟨u, rfl, h1⟩ := hx
  obtain ⟨v, rfl, h2⟩ := hy
  obtain ⟨m, p, e1, _⟩ := read_nb k u a ha h1
  obtain ⟨n, q, e2, _⟩ := read_nb k v b hb h2
  rw [nx u rfl] at e1
  rw [ny v rfl] at e2
  intro r hr
  have e : fop .add k (some u) (some v) = ((Datum.number false m p).sum (.number false n q)).map k.format.write := by
    show k.format.add u v = _
    unfold Format.add; rw [e1, e2]
  rw [e] at hr
  have : r = k.format.nearest (if signed false m (p - min p q).toNat + signed false n (q - min p q).toNat = 0 then (false && false) else decide (signed false m (p - min p q).toNat + signed false n (q - min p q).toNat < 0)) (signed false m (p - min p q).toNat + signed false n (q - min p q).toNat).natAbs (min p q) := by
    have := Option.some.inj hr
    exact this.symm
  rw [this, sgn_nearest, signed_val, signed_val]
  simp only [Bool.false_eq_true, if_false]
  split
  · rfl
  · rw [decide_eq_false]
    omega

theorem add_lb {k : FloatKind} {x y : Option Nat} {a b e : Int} (hx : Nb k x a) (hy : Nb k y b) (ha : Rg k.format a) (hb : Rg k.format b) (nx : Nn k x) (ny : Nn k y) (ly : Lb k y e) (he : Rg k.format e) : Lb k (fop .add k x y) e := by
  obtain ⟨u, rfl, h1⟩ := hx
  obtain ⟨v, rfl, h2⟩ := hy
  obtain ⟨v', hv', h3, h4⟩ := ly
  cases hv'
  obtain ⟨m, p, e1, _⟩ := read_nb k u a ha h1
  have hvr : rung k.format v < k.format.infRung := Nat.lt_of_le_of_lt h2 hb.2
  have e2 := read_num _ v hvr
  have hg := ge_of_rung _ v e (by have := he.1; omega) h3
  rw [nx u rfl] at e1
  rw [ny v rfl] at e2
  generalize mag k.format (rung k.format v) = n at *
  generalize k.format.leastPlace + (plc k.format (rung k.format v) : Int) = q at *
  have e' : fop .add k (some u) (some v) = ((Datum.number false m p).sum (.number false n q)).map k.format.write := by
    show k.format.add u v = _
    unfold Format.add; rw [e1, e2]
  rw [e']
  refine ⟨_, rfl, ?_⟩
  show _ ≤ rung k.format (k.format.nearest _ _ _) ∧ rung k.format (k.format.nearest _ _ _) ≤ _
  obtain ⟨s1, s2⟩ := hg.shift (c := min p q) (by omega)
  have tot : (signed false m (p - min p q).toNat + signed false n (q - min p q).toNat).natAbs = m * 2 ^ (p - min p q).toNat + n * 2 ^ (q - min p q).toNat := by
    rw [signed_val, signed_val]
    simp only [Bool.false_eq_true, if_false]
    omega
  rw [tot]
  have hmono := log2_mono s1 (show n * 2 ^ (q - min p q).toNat ≤ m * 2 ^ (p - min p q).toNat + n * 2 ^ (q - min p q).toNat by omega)
  exact nearest_ge _ _ _ _ _ (by have := he.1; omega) (Nat.le_of_lt he.2) (by omega) (by omega)

/-! ### Square roots -/

theorem rootFrom_le (n : Nat) : ∀ todo root, root * root ≤ n → Datum.rootFrom n todo root * Datum.rootFrom n todo root ≤ n
  | 0, root, h => h
  | todo + 1, root, h => by
    unfold Datum.rootFrom
    dsimp only
    split
    · rename_i hc; exact rootFrom_le n todo _ hc
    · exact rootFrom_le n todo _ h

def sqF (v : Option Nat) : Option Nat := v.bind fun b => FloatKind.f64.format.sqrt b

/-- the word that math.Sqrt gives in the world w, and its draws -/
def sB (x : Nat) (w : World) : Nat := (FloatKind.f64.format.sqrt x).getD ((Question.nanBits .f64 x x).cut (w.tape w.drawn (.nanBits .f64 x x)))
def sN (x : Nat) : Nat := if (FloatKind.f64.format.sqrt x).isSome then 0 else 1

theorem sqrt_notNaN {x r : Nat} (h : FloatKind.f64.format.sqrt x = some r) : cls .f64 r = some r := by
  unfold Format.sqrt at h
  cases hd : (FloatKind.f64.format.read x).root (FloatKind.f64.format.fractionBits + 2) with
  | none => rw [hd] at h; cases h
  | some d =>
    rw [hd] at h
    cases h
    have := rung_write FloatKind.f64.format d (root_notNaN hd)
    unfold cls; rw [if_neg (by show ¬ _ < rung FloatKind.f64.format (FloatKind.f64.format.write d); omega)]

theorem sB_Fl (x : Nat) (w : World) : Fl .f64 (sqF (Flt.cls .f64 x)) (sB x w) := by
  have hs : sqF (Flt.cls .f64 x) = FloatKind.f64.format.sqrt x := by
    unfold Flt.cls sqF
    by_cases h : FloatKind.f64.format.infRung < rung FloatKind.f64.format x
    · rw [if_pos h]
      unfold Format.sqrt; rw [read_nan _ (ok .f64) x h]; rfl
    · rw [if_neg h]; rfl
  rw [hs]
  unfold sB
  cases h : FloatKind.f64.format.sqrt x with
  | some r => exact ⟨sqrt_notNaN h, FloatKind.f64.format.sqrt_lt h⟩
  | none =>
    obtain ⟨h1, h2⟩ := nanBits_cut .f64 x x (w.tape w.drawn (.nanBits .f64 x x))
    refine ⟨?_, h2⟩
    show Flt.cls .f64 ((Question.nanBits .f64 x x).cut (w.tape w.drawn (.nanBits .f64 x x))) = none
    unfold Flt.cls; rw [if_pos h1]

/-- The root of a number that is at most '2 ^ (2 e)' and not negative. -/
theorem sqrt_nb {v : Option Nat} {e : Int} (hv : Nb .f64 v (2 * e)) (h2 : Rg FloatKind.f64.format (2 * e)) (h1 : Rg FloatKind.f64.format e) (hn : Nn .f64 v) : Nb .f64 (sqF v) e := by
  obtain ⟨u, rfl, hu⟩ := hv
  obtain ⟨m, i, e1, l1⟩ := read_nb .f64 u (2 * e) h2 hu
  rw [hn u rfl] at e1
  show Nb .f64 (FloatKind.f64.format.sqrt u) e
  unfold Format.sqrt
  rw [e1]
  show Nb .f64 (Option.map _ (if m = 0 then _ else _)) e
  by_cases hm : m = 0
  · rw [if_pos hm]
    refine nearest_nb .f64 _ _ _ _ h1 (.inl hm)
  · rw [if_neg hm, if_neg (by simp)]
    refine nearest_nb .f64 _ _ _ _ h1 ?_
    generalize hmore : 2 * (FloatKind.f64.format.fractionBits + 2) - m.log2 + ((i - (2 * (FloatKind.f64.format.fractionBits + 2) - m.log2 : Nat)) % 2).toNat = more
    have heven : (i - more) % 2 = 0 := by omega
    generalize hw : Datum.rootFrom (m <<< more) ((m <<< more).log2 / 2 + 1) 0 = whole
    have hsq : whole * whole ≤ m <<< more := by rw [← hw]; exact rootFrom_le _ _ _ (by simp)
    rcases l1 with l1 | ⟨c, lc1, lc2⟩
    · exact absurd l1 hm
    right
    have hml := log2_lo m hm
    have hlog : m.log2 ≤ c := by
      apply Classical.byContradiction
      intro hc
      have := Nat.pow_lt_pow_right (show 1 < 2 by decide) (show c < m.log2 by omega)
      omega
    obtain ⟨h, hh⟩ : ∃ h : Nat, c + more = 2 * h := ⟨(c + more) / 2, by omega⟩
    refine ⟨h + 1, by omega, ?_⟩
    have hn' : m <<< more ≤ 2 ^ h * 2 ^ h := by
      rw [Nat.shiftLeft_eq, ← Nat.pow_add, show h + h = c + more by omega, Nat.pow_add]
      exact Nat.mul_le_mul_right _ lc2
    rw [Nat.pow_succ]
    generalize 2 ^ h = B at *
    generalize m <<< more = n at *
    have hle : whole ≤ B := by
      apply Classical.byContradiction
      intro hc
      have := Nat.mul_self_lt_mul_self (show B < whole by omega)
      omega
    rcases Nat.lt_or_eq_of_le hle with hlt | heq
    · have : (whole * whole != n).toNat ≤ 1 := Bool.toNat_le _
      omega
    · have : whole * whole = n := by rw [heq] at hsq ⊢; omega
      rw [this]; simp; omega

/-! ### Narrowing -/

theorem narOk_of {v : Option Nat} {e : Int} (h : Nb .f64 v e) (he : e ≤ 127) : NarOk v := by
  intro b hb
  right
  obtain ⟨u, h1, h2⟩ := h.mono he
  rw [hb] at h1
  cases h1
  obtain ⟨m, p, e1, l1⟩ := read_nb .f64 b 127 (rg64 (by decide) (by decide)) h2
  have e1' : FloatKind.f64.decode b = _ := e1
  rw [e1']
  have h3 := nearest_le FloatKind.f32.format (sgn FloatKind.f64.format b) m p 127 (by decide) l1
  have h4 : pw FloatKind.f32.format 127 < FloatKind.f32.format.infRung := by decide
  have h5 := read_num FloatKind.f32.format (FloatKind.f32.format.nearest (sgn FloatKind.f64.format b) m p) (by omega)
  have h6 : FloatKind.f32.decode (FloatKind.f32.encode (.number (sgn FloatKind.f64.format b) m p)) = _ := h5
  rw [h6]; rfl

theorem narOk_none : NarOk none := fun _ h => by cases h

/-- A float32 that is a number, widened: at most '2 ^ 128'. -/
theorem wid_nb (x : Nat) (h : rung FloatKind.f32.format x < FloatKind.f32.format.infRung) : Nb .f64 (wid (Flt.cls .f32 x)) 128 := by
  have e : Flt.cls .f32 x = some x := by unfold Flt.cls; rw [if_neg (by omega)]
  rw [e]
  refine ⟨W x, rfl, ?_⟩
  have h1 := W_lt_iff 2139095039 x (by decide) (by omega)
  have h2 : rung FloatKind.f32.format 2139095039 = 2139095039 := by decide
  have h3 : FloatKind.f32.format.infRung = 2139095040 := by decide
  have h4 : rung FloatKind.f64.format (W 2139095039) ≤ pw FloatKind.f64.format 128 := by decide +kernel
  omega

theorem root_narOk (x : Nat) : NarOk (sqF (wid (Flt.cls .f32 x))) := by
  rcases Nat.lt_trichotomy (rung FloatKind.f32.format x) FloatKind.f32.format.infRung with h | h | h
  · have hb := wid_nb x h
    obtain ⟨u, hu, hr⟩ := hb
    cases hs : sgn FloatKind.f64.format u with
    | false => exact narOk_of (sqrt_nb ⟨u, hu, hr⟩ (rg64 (by decide) (by decide)) (rg64 (by decide) (by decide)) (e := 64) (fun b hb => by rw [hu] at hb; cases hb; exact hs)) (by decide)
    | true =>
      rw [hu]
      obtain ⟨m, p, e1, l1⟩ := read_nb .f64 u 128 (rg64 (by decide) (by decide)) hr
      rw [hs] at e1
      show NarOk (FloatKind.f64.format.sqrt u)
      unfold Format.sqrt
      rw [e1]
      show NarOk (Option.map _ (if m = 0 then _ else _))
      by_cases hm : m = 0
      · rw [if_pos hm]
        exact narOk_of (nearest_nb .f64 _ _ _ 0 (rg64 (by decide) (by decide)) (.inl hm)) (by decide)
      · rw [if_neg hm, if_pos (by rfl)]; exact narOk_none
  · have e : Flt.cls .f32 x = some x := by unfold Flt.cls; rw [if_neg (by omega)]
    rw [e]
    show NarOk (FloatKind.f64.format.sqrt (W x))
    unfold W
    rw [widen_inf x h]
    have hi := infRung_lt FloatKind.f64.format
    unfold Format.sqrt
    rw [read_inf _ (ok .f64) _ (rung_word _ _ _ hi), sgn_word _ _ _ hi]
    cases sgn FloatKind.f32.format x with
    | true => exact narOk_none
    | false =>
      intro b hb
      left
      cases hb
      decide +kernel
  · have e : Flt.cls .f32 x = none := by unfold Flt.cls; rw [if_pos h]
    rw [e]; exact narOk_none

end Go.Proofs.Ytdomcjiiilbajaa.Flt
