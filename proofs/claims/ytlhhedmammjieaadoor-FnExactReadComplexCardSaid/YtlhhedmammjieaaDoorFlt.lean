/- Plain facts on binary floating point, with no program in sight: the order of words by their rungs; what rounding does to numbers that fit and to numbers below or above a power of two; the class of a word (none: a NaN). -/
import Derived.Laws.FloatArith
namespace Go.Proofs.YtlhhedmammjieaaDoor.Flt
open Ieee

structure Ok (f : Format) : Prop where
  e : 2 ≤ f.exponentBits
  t : 2 ≤ f.fractionBits

theorem ok (k : FloatKind) : Ok k.format := by cases k <;> exact ⟨by decide, by decide⟩

theorem binade_pos (f : Format) : 0 < f.binade := Nat.two_pow_pos _

theorem two_binade_le (f : Format) (h : Ok f) : 2 * f.binade ≤ f.infRung := by
  unfold Format.infRung
  have h1 : 2 ^ 2 ≤ 2 ^ f.exponentBits := Nat.pow_le_pow_right (by decide) h.e
  exact Nat.mul_le_mul_right _ (by omega)

theorem infRung_lt (f : Format) : f.infRung < f.signWeight := f.infRung_lt

theorem sign_pos (f : Format) : 0 < f.signWeight := Nat.two_pow_pos _

def rung (f : Format) (b : Nat) : Nat := b % f.signWeight
def sgn (f : Format) (b : Nat) : Bool := b / f.signWeight % 2 == 1
def mag (f : Format) (r : Nat) : Nat := if r < f.binade then r else f.binade + r % f.binade
def plc (f : Format) (r : Nat) : Nat := r / f.binade - 1
def val (f : Format) (r : Nat) : Nat := mag f r * 2 ^ plc f r

theorem read_num (f : Format) (b : Nat) (h : rung f b < f.infRung) : f.read b = .number (sgn f b) (mag f (rung f b)) (f.leastPlace + plc f (rung f b)) := by
  unfold Format.read rung sgn mag plc at *
  dsimp only
  by_cases h1 : b % f.signWeight < f.binade
  · rw [if_pos h1, if_pos h1, Nat.div_eq_of_lt h1]
    simp
  · rw [if_neg h1, if_pos h, if_neg h1]

theorem read_inf (f : Format) (hf : Ok f) (b : Nat) (h : rung f b = f.infRung) : f.read b = .infinity (sgn f b) := by
  have h2 := two_binade_le f hf
  have h3 := binade_pos f
  unfold Format.read rung sgn at *
  dsimp only
  rw [if_neg (by omega), if_neg (by omega), if_pos h]

theorem read_nan (f : Format) (hf : Ok f) (b : Nat) (h : f.infRung < rung f b) : f.read b = .nan (sgn f b) (rung f b - f.infRung) := by
  have h2 := two_binade_le f hf
  have h3 := binade_pos f
  unfold Format.read rung sgn at *
  dsimp only
  rw [if_neg (by omega), if_neg (by omega), if_neg (by omega)]

theorem isNaN_iff (f : Format) (hf : Ok f) (b : Nat) : (f.read b).isNaN = decide (f.infRung < rung f b) := by
  rcases Nat.lt_trichotomy (rung f b) f.infRung with h | h | h
  · rw [read_num f b h]; simp [Datum.isNaN]; omega
  · rw [read_inf f hf b h]; simp [Datum.isNaN]; omega
  · rw [read_nan f hf b h]; simp [Datum.isNaN]; omega

/-! ### Magnitudes rise with the rungs -/

theorem val_succ (f : Format) (r : Nat) : val f r < val f (r + 1) := by
  have hb := binade_pos f
  unfold val mag plc
  by_cases h1 : r + 1 < f.binade
  · rw [if_pos h1, if_pos (by omega), Nat.div_eq_of_lt h1, Nat.div_eq_of_lt (by omega)]
    simp
  · by_cases h2 : r < f.binade
    · have e : r + 1 = f.binade := by omega
      rw [if_neg h1, if_pos h2, e, Nat.mod_self, Nat.div_self hb, Nat.div_eq_of_lt h2]
      simp; omega
    · rw [if_neg h1, if_neg h2]
      obtain ⟨q, t, ht, hr⟩ : ∃ q t, t < f.binade ∧ r = f.binade * (q + 1) + t :=
        ⟨r / f.binade - 1, r % f.binade, Nat.mod_lt _ hb, by
          have h3 : 1 ≤ r / f.binade := (Nat.one_le_div_iff hb).2 (by omega)
          rw [show r / f.binade - 1 + 1 = r / f.binade by omega]
          exact (Nat.div_add_mod r f.binade).symm⟩
      have e1 : r / f.binade = q + 1 := by
        rw [hr, Nat.mul_add_div hb, Nat.div_eq_of_lt ht]
      have e2 : r % f.binade = t := by rw [hr, Nat.mul_add_mod, Nat.mod_eq_of_lt ht]
      rw [e1, e2]
      have hp : 0 < 2 ^ q := Nat.two_pow_pos _
      by_cases h4 : t + 1 < f.binade
      · have e3 : (r + 1) / f.binade = q + 1 := by
          rw [hr, Nat.add_assoc, Nat.mul_add_div hb, Nat.div_eq_of_lt h4]
        have e4 : (r + 1) % f.binade = t + 1 := by rw [hr, Nat.add_assoc, Nat.mul_add_mod, Nat.mod_eq_of_lt h4]
        rw [e3, e4]
        simp only [Nat.add_sub_cancel]
        exact Nat.mul_lt_mul_of_pos_right (by omega) hp
      · have e5 : r + 1 = f.binade * (q + 2) := by rw [hr, Nat.mul_add, Nat.mul_add]; omega
        rw [e5, Nat.mul_mod_right, Nat.mul_div_cancel_left _ hb]
        simp only [Nat.add_sub_cancel, Nat.add_zero, show q + 2 - 1 = q + 1 from rfl]
        rw [Nat.pow_succ, Nat.mul_comm (2 ^ q) 2, ← Nat.mul_assoc]
        exact Nat.mul_lt_mul_of_pos_right (by omega) hp

theorem val_lt (f : Format) {r s : Nat} (h : r < s) : val f r < val f s := by
  induction s with
  | zero => omega
  | succ s ih =>
    by_cases e : r = s
    · rw [e]; exact val_succ f s
    · exact Nat.lt_trans (ih (by omega)) (val_succ f s)

theorem val_le (f : Format) {r s : Nat} (h : r ≤ s) : val f r ≤ val f s := by
  rcases Nat.lt_or_eq_of_le h with h | h
  · exact Nat.le_of_lt (val_lt f h)
  · rw [h]; exact Nat.le_refl _

theorem val_lt_iff (f : Format) (r s : Nat) : val f r < val f s ↔ r < s :=
  ⟨fun h => Nat.lt_of_not_le fun h' => absurd (val_le f h') (by omega), val_lt f⟩

theorem val_inj (f : Format) {r s : Nat} (h : val f r = val f s) : r = s := by
  rcases Nat.lt_trichotomy r s with h1 | h1 | h1
  · have := val_lt f h1; omega
  · exact h1
  · have := val_lt f h1; omega

theorem val_zero (f : Format) : val f 0 = 0 := by
  unfold val mag; rw [if_pos (binade_pos f)]; simp

/-! ### The order of words -/

def srung (f : Format) (b : Nat) : Int := if sgn f b then -(rung f b : Int) else rung f b
def sval (f : Format) (b : Nat) : Int := if sgn f b then -(val f (rung f b) : Int) else val f (rung f b)

theorem cmp_congr {a b c d : Int} (h1 : a < b ↔ c < d) (h2 : a = b ↔ c = d) : compare a b = compare c d := by
  show compareOfLessAndEq a b = compareOfLessAndEq c d
  unfold compareOfLessAndEq
  by_cases h : a < b
  · rw [if_pos h, if_pos (h1.1 h)]
  · rw [if_neg h, if_neg (fun x => h (h1.2 x))]
    by_cases e : a = b
    · rw [if_pos e, if_pos (h2.1 e)]
    · rw [if_neg e, if_neg (fun x => e (h2.2 x))]

theorem sval_srung_lt (f : Format) (a b : Nat) : sval f a < sval f b ↔ srung f a < srung f b := by
  have h1 := val_lt_iff f (rung f a) (rung f b)
  have h2 := val_lt_iff f (rung f b) (rung f a)
  have h3 := val_lt_iff f 0 (rung f a)
  have h4 := val_lt_iff f 0 (rung f b)
  rw [val_zero] at h3 h4
  unfold sval srung
  cases sgn f a <;> cases sgn f b <;> simp <;> omega

theorem sval_srung_eq (f : Format) (a b : Nat) : sval f a = sval f b ↔ srung f a = srung f b := by
  have h1 := sval_srung_lt f a b
  have h2 := sval_srung_lt f b a
  omega

theorem signed_val (neg : Bool) (m u : Nat) : signed neg m u = if neg then -((m * 2 ^ u : Nat) : Int) else ((m * 2 ^ u : Nat) : Int) := by
  unfold signed; rw [Nat.shiftLeft_eq]

theorem signed_scale (neg : Bool) (m u v : Nat) : signed neg m u * ((2 ^ v : Nat) : Int) = signed neg m (u + v) := by
  rw [signed_val, signed_val, Nat.pow_add, ← Nat.mul_assoc]
  cases neg
  · simp
  · simp [Int.neg_mul]

theorem order_num (f : Format) (a b : Nat) (ha : rung f a < f.infRung) (hb : rung f b < f.infRung) : f.order a b = some (compare (sval f a) (sval f b)) := by
  unfold Format.order
  rw [read_num f a ha, read_num f b hb]
  unfold Datum.order
  dsimp only
  congr 1
  obtain ⟨x, hx⟩ : ∃ x, x = plc f (rung f a) := ⟨_, rfl⟩
  obtain ⟨y, hy⟩ : ∃ y, y = plc f (rung f b) := ⟨_, rfl⟩
  have key : ∀ s b', (let z := plc f (rung f b'); signed s (mag f (rung f b')) z) = if s then -(val f (rung f b') : Int) else val f (rung f b') := by
    intro s b'
    dsimp only
    rw [signed_val]; rfl
  rw [← hx, ← hy]
  have e1 : (f.leastPlace + (x : Int) - min (f.leastPlace + (x : Int)) (f.leastPlace + (y : Int))).toNat = x - min x y := by omega
  have e2 : (f.leastPlace + (y : Int) - min (f.leastPlace + (x : Int)) (f.leastPlace + (y : Int))).toNat = y - min x y := by omega
  rw [e1, e2]
  have ka : signed (sgn f a) (mag f (rung f a)) (x - min x y) * ((2 ^ min x y : Nat) : Int) = sval f a := by
    rw [signed_scale, show x - min x y + min x y = x by omega, hx]; exact key _ a
  have kb : signed (sgn f b) (mag f (rung f b)) (y - min x y) * ((2 ^ min x y : Nat) : Int) = sval f b := by
    rw [signed_scale, show y - min x y + min x y = y by omega, hy]; exact key _ b
  have hp : (0 : Int) < ((2 ^ min x y : Nat) : Int) := Int.natCast_pos.2 (Nat.two_pow_pos _)
  refine cmp_congr ?_ ?_
  · rw [← ka, ← kb]; exact (Int.mul_lt_mul_right hp).symm
  · rw [← ka, ← kb]; exact ⟨fun h => by rw [h], fun h => Int.eq_of_mul_eq_mul_right (Int.ne_of_gt hp) h⟩

/-- TWO WORDS THAT ARE NO NaN STAND TO EACH OTHER AS THEIR SIGNED RUNGS. -/
theorem order_eq (f : Format) (hf : Ok f) (a b : Nat) (ha : rung f a ≤ f.infRung) (hb : rung f b ≤ f.infRung) : f.order a b = some (compare (srung f a) (srung f b)) := by
  have hpos := two_binade_le f hf
  have hbp := binade_pos f
  have cmpN : ∀ s t : Bool, compare t.toNat s.toNat = compare (if s then (-1 : Int) else 1) (if t then (-1 : Int) else 1) := by decide
  rcases Nat.lt_or_eq_of_le ha with h1 | h1 <;> rcases Nat.lt_or_eq_of_le hb with h2 | h2
  · rw [order_num f a b h1 h2]
    congr 1
    exact cmp_congr (sval_srung_lt f a b) (sval_srung_eq f a b)
  · unfold Format.order
    rw [read_num f a h1, read_inf f hf b h2]
    show some _ = some _
    congr 1
    unfold srung
    cases hs : sgn f b <;> cases hs' : sgn f a <;> simp only [if_true, if_false, Bool.false_eq_true]
    · show _ = compareOfLessAndEq _ _; unfold compareOfLessAndEq; rw [if_pos (by omega)]
    · show _ = compareOfLessAndEq _ _; unfold compareOfLessAndEq; rw [if_pos (by omega)]
    · show _ = compareOfLessAndEq _ _; unfold compareOfLessAndEq; rw [if_neg (by omega), if_neg (by omega)]
    · show _ = compareOfLessAndEq _ _; unfold compareOfLessAndEq; rw [if_neg (by omega), if_neg (by omega)]
  · unfold Format.order
    rw [read_inf f hf a h1, read_num f b h2]
    show some _ = some _
    congr 1
    unfold srung
    cases hs : sgn f a <;> cases hs' : sgn f b <;> simp only [if_true, if_false, Bool.false_eq_true]
    · show _ = compareOfLessAndEq _ _; unfold compareOfLessAndEq; rw [if_neg (by omega), if_neg (by omega)]
    · show _ = compareOfLessAndEq _ _; unfold compareOfLessAndEq; rw [if_neg (by omega), if_neg (by omega)]
    · show _ = compareOfLessAndEq _ _; unfold compareOfLessAndEq; rw [if_pos (by omega)]
    · show _ = compareOfLessAndEq _ _; unfold compareOfLessAndEq; rw [if_pos (by omega)]
  · unfold Format.order
    rw [read_inf f hf a h1, read_inf f hf b h2]
    show some _ = some _
    congr 1
    rw [cmpN]
    unfold srung
    refine cmp_congr ?_ ?_ <;> cases sgn f a <;> cases sgn f b <;> simp <;> omega

theorem order_nan_left (f : Format) (hf : Ok f) (a b : Nat) (ha : f.infRung < rung f a) : f.order a b = none := by
  unfold Format.order; rw [read_nan f hf a ha]; rfl

theorem order_nan_right (f : Format) (hf : Ok f) (a b : Nat) (hb : f.infRung < rung f b) : f.order a b = none := by
  unfold Format.order; rw [read_nan f hf b hb]; cases f.read a <;> rfl

/-- A word below '2 ^ width' is its sign and its rung. -/
theorem word_of (f : Format) (b : Nat) (h : b < 2 ^ f.width) : b = f.word (sgn f b) (rung f b) := by
  have hs := sign_pos f
  have two : 2 ^ f.width = 2 * f.signWeight := by
    unfold Format.width Format.signWeight
    rw [Nat.add_assoc, Nat.add_comm 1, Nat.pow_succ, Nat.mul_comm]
  have hd : b / f.signWeight < 2 := (Nat.div_lt_iff_lt_mul hs).2 (by omega)
  have hm := Nat.div_add_mod b f.signWeight
  unfold Format.word sgn rung
  have h01 : b / f.signWeight = 0 ∨ b / f.signWeight = 1 := by
    generalize b / f.signWeight = c at hd
    omega
  rcases h01 with e | e
  · rw [e] at hm ⊢; simp at hm ⊢; omega
  · rw [e] at hm ⊢; simp at hm ⊢; omega

theorem rung_word (f : Format) (s : Bool) (r : Nat) (h : r < f.signWeight) : rung f (f.word s r) = r := by
  unfold rung Format.word
  cases s
  · simp [Nat.mod_eq_of_lt h]
  · simp [Nat.mod_eq_of_lt h]

theorem sgn_word (f : Format) (s : Bool) (r : Nat) (h : r < f.signWeight) : sgn f (f.word s r) = s := by
  have hs := sign_pos f
  unfold sgn Format.word
  cases s
  · simp [Nat.div_eq_of_lt h]
  · simp [Nat.add_div_left _ hs, Nat.div_eq_of_lt h]

/-! ### Classes: 'none' for a NaN, else the word -/

def cls (k : FloatKind) (b : Nat) : Option Nat := if k.format.infRung < rung k.format b then none else some b

theorem cls_some {k : FloatKind} {a b : Nat} (h : cls k a = some b) : b = a ∧ rung k.format a ≤ k.format.infRung := by
  unfold cls at h
  split at h
  · cases h
  · cases h; exact ⟨rfl, by omega⟩

theorem cls_none {k : FloatKind} {a : Nat} (h : cls k a = none) : k.format.infRung < rung k.format a := by
  unfold cls at h
  split at h
  · assumption
  · cases h

/-- What the rounding gives is no NaN. -/
theorem rung_nearest (f : Format) (neg : Bool) (m : Nat) (p : Int) : rung f (f.nearest neg m p) ≤ f.infRung := by
  have := infRung_lt f
  unfold Format.nearest
  dsimp only
  split
  · rw [rung_word f neg 0 (sign_pos f)]; omega
  · rw [rung_word f neg _ (by omega)]; omega

theorem rung_write (f : Format) (d : Datum) (h : d.isNaN = false) : rung f (f.write d) ≤ f.infRung := by
  have := infRung_lt f
  cases d with
  | number s m p => exact rung_nearest f s m p
  | infinity s => unfold Format.write; rw [rung_word f s _ this]; omega
  | nan s t => cases h

theorem sum_notNaN {x y d : Datum} (h : x.sum y = some d) : d.isNaN = false := by
  cases x <;> cases y <;> simp only [Datum.sum] at h <;> (try split at h) <;> cases h <;> rfl
theorem product_notNaN {x y d : Datum} (h : x.product y = some d) : d.isNaN = false := by
  cases x <;> cases y <;> simp only [Datum.product] at h <;> (try split at h) <;> cases h <;> rfl
theorem quotient_notNaN {n : Nat} {x y d : Datum} (h : x.quotient n y = some d) : d.isNaN = false := by
  cases x <;> cases y <;> simp only [Datum.quotient] at h <;> (try split at h) <;> (try split at h) <;> cases h <;> rfl
theorem root_notNaN {n : Nat} {x d : Datum} (h : x.root n = some d) : d.isNaN = false := by
  cases x <;> simp only [Datum.root] at h <;> (try split at h) <;> (try split at h) <;> cases h <;> rfl

theorem floatBits_notNaN {op : BinOp} {k : FloatKind} {x y r : Nat} (h : floatBits op k x y = some r) : cls k r = some r := by
  have key : ∀ d : Option Datum, d.map k.format.write = some r → (∀ e, d = some e → e.isNaN = false) → cls k r = some r := by
    intro d hd hn
    cases d with
    | none => cases hd
    | some d =>
      cases hd
      have := rung_write k.format d (hn d rfl)
      unfold cls; rw [if_neg (by omega)]
  unfold floatBits at h
  split at h
  · exact key _ h fun _ he => sum_notNaN he
  · exact key _ h fun _ he => sum_notNaN he
  · exact key _ h fun _ he => product_notNaN he
  · exact key _ h fun _ he => quotient_notNaN he
  · cases h

/-- THE OPERATION ON CLASSES. -/
def fop (op : BinOp) (k : FloatKind) (x y : Option Nat) : Option Nat := x.bind fun a => y.bind fun b => floatBits op k a b

theorem floatBits_nan_left (op : BinOp) (k : FloatKind) (x y : Nat) (h : k.format.infRung < rung k.format x) : floatBits op k x y = none := by
  unfold floatBits
  split <;> first | rfl | skip
  all_goals (simp only [Format.add, Format.sub, Format.mul, Format.div]; rw [read_nan _ (ok k) x h]; rfl)

theorem floatBits_nan_right (op : BinOp) (k : FloatKind) (x y : Nat) (h : k.format.infRung < rung k.format y) : floatBits op k x y = none := by
  unfold floatBits
  split <;> first | rfl | skip
  all_goals (simp only [Format.add, Format.sub, Format.mul, Format.div]; rw [read_nan _ (ok k) y h]; cases k.format.read x <;> rfl)

theorem fop_cls (op : BinOp) (k : FloatKind) (x y : Nat) : fop op k (cls k x) (cls k y) = floatBits op k x y := by
  unfold fop cls
  by_cases hx : k.format.infRung < rung k.format x
  · rw [if_pos hx, floatBits_nan_left op k x y hx]; rfl
  · rw [if_neg hx]
    by_cases hy : k.format.infRung < rung k.format y
    · rw [if_pos hy, floatBits_nan_right op k x y hy]; rfl
    · rw [if_neg hy]; rfl

/-! ### Rounding -/

theorem log2_lo (m : Nat) (h : m ≠ 0) : 2 ^ m.log2 ≤ m := Nat.log2_self_le h
theorem log2_hi (m : Nat) : m < 2 ^ (m.log2 + 1) := Nat.lt_log2_self

theorem log2_unique {m n : Nat} (h1 : 2 ^ n ≤ m) (h2 : m < 2 ^ (n + 1)) : m.log2 = n := by
  have hm : m ≠ 0 := by have := Nat.two_pow_pos n; omega
  have a := log2_lo m hm
  have b := log2_hi m
  rcases Nat.lt_trichotomy m.log2 n with h | h | h
  · have := Nat.pow_le_pow_right (show 0 < 2 by decide) (show m.log2 + 1 ≤ n by omega); omega
  · exact h
  · have := Nat.pow_le_pow_right (show 0 < 2 by decide) (show n + 1 ≤ m.log2 by omega); omega

theorem log2_mul_pow (m n : Nat) (h : m ≠ 0) : (m * 2 ^ n).log2 = m.log2 + n := by
  refine log2_unique ?_ ?_
  · rw [Nat.pow_add]; exact Nat.mul_le_mul_right _ (log2_lo m h)
  · rw [show m.log2 + n + 1 = m.log2 + 1 + n by omega, Nat.pow_add]
    exact Nat.mul_lt_mul_of_pos_right (log2_hi m) (Nat.two_pow_pos n)

theorem cut_exact (neg : Bool) (m d : Nat) (h : m ≠ 0) : Toward.even.cut neg (m * 2 ^ d) d = m := by
  unfold Toward.cut
  dsimp only
  rw [log2_mul_pow m d h, show min d (m.log2 + d + 2) = d by omega, Nat.one_shiftLeft, Nat.mul_mod_left, Nat.mul_div_cancel _ (Nat.two_pow_pos d)]
  have := Nat.two_pow_pos d
  simp

/-- A NUMBER THAT LIES ON THE GRID IS KEPT (or is too great). -/
theorem nearest_grid (f : Format) (neg : Bool) (m : Nat) (j : Int) (mg q : Nat) (hm : mg ≠ 0) (h1 : mg < 2 * f.binade) (h2 : q = 0 ∨ f.binade ≤ mg)
    (hv : m * 2 ^ j.toNat = mg * 2 ^ q * 2 ^ (-j).toNat) : f.nearest neg m (f.leastPlace + j) = f.word neg (min (q * f.binade + mg) f.infRung) := by
  have hm0 : m ≠ 0 := by
    intro e
    rw [e, Nat.zero_mul] at hv
    have := Nat.two_pow_pos q
    have := Nat.two_pow_pos (-j).toNat
    have : 0 < mg * 2 ^ q * 2 ^ (-j).toNat := Nat.mul_pos (Nat.mul_pos (by omega) ‹_›) ‹_›
    omega
  have hL : (m.log2 : Int) + j = mg.log2 + q := by
    have := congrArg Nat.log2 hv
    rw [log2_mul_pow m _ hm0, Nat.mul_assoc, ← Nat.pow_add, log2_mul_pow mg _ hm] at this
    omega
  have hfb : mg.log2 ≤ f.fractionBits := by
    have a := log2_lo mg hm
    apply Classical.byContradiction
    intro h
    have := Nat.pow_le_pow_right (show 0 < 2 by decide) (show f.fractionBits + 1 ≤ mg.log2 by omega)
    rw [Nat.pow_succ] at this
    unfold Format.binade at h1
    omega
  have hfb2 : q = 0 ∨ mg.log2 = f.fractionBits := by
    rcases h2 with h2 | h2
    · exact .inl h2
    · right
      have b := log2_hi mg
      apply Classical.byContradiction
      intro h
      have := Nat.pow_le_pow_right (show 0 < 2 by decide) (show mg.log2 + 1 ≤ f.fractionBits by omega)
      unfold Format.binade at h2
      omega
  have hlast : max (f.leastPlace + j + m.log2 - f.fractionBits) f.leastPlace = f.leastPlace + q := by omega
  unfold Format.nearest
  rw [if_neg hm0]
  dsimp only
  rw [hlast, show f.leastPlace + j - (f.leastPlace + (q : Int)) = j - q by omega, show f.leastPlace + (q : Int) - (f.leastPlace + j) = q - j by omega, show f.leastPlace + (q : Int) - f.leastPlace = q by omega, Int.toNat_natCast]
  congr 3
  by_cases hjq : (q : Int) ≤ j
  · rw [show ((q : Int) - j).toNat = 0 by omega, Nat.shiftLeft_eq]
    have e : m * 2 ^ (j - q).toNat = mg := by
      rw [show (-j).toNat = 0 by omega, Nat.pow_zero, Nat.mul_one, show j.toNat = (j - q).toNat + q by omega, Nat.pow_add, ← Nat.mul_assoc] at hv
      exact Nat.eq_of_mul_eq_mul_right (Nat.two_pow_pos q) hv
    rw [e]
    simpa using cut_exact neg mg 0 hm
  · rw [show (j - (q : Int)).toNat = 0 by omega, Nat.shiftLeft_eq, Nat.pow_zero, Nat.mul_one]
    have e : m = mg * 2 ^ ((q : Int) - j).toNat := by
      by_cases hj : 0 ≤ j
      · rw [show (-j).toNat = 0 by omega, Nat.pow_zero, Nat.mul_one, show q = ((q : Int) - j).toNat + j.toNat by omega, Nat.pow_add, ← Nat.mul_assoc] at hv
        exact Nat.eq_of_mul_eq_mul_right (Nat.two_pow_pos j.toNat) hv
      · rw [show j.toNat = 0 by omega, Nat.pow_zero, Nat.mul_one, Nat.mul_assoc, ← Nat.pow_add] at hv
        rw [hv]; congr 2; omega
    rw [e]
    exact cut_exact neg mg _ hm

theorem cut_le (neg : Bool) (n d b : Nat) (h : n < b * 2 ^ d) : Toward.even.cut neg n d ≤ b := by
  unfold Toward.cut
  dsimp only
  rw [Nat.one_shiftLeft]
  have key : n / 2 ^ min d (n.log2 + 2) < b := by
    by_cases hd : d ≤ n.log2 + 2
    · rw [Nat.min_eq_left hd]; exact (Nat.div_lt_iff_lt_mul (Nat.two_pow_pos d)).2 h
    · rw [Nat.min_eq_right (by omega), Nat.div_eq_of_lt]
      · apply Nat.pos_of_ne_zero; intro e; rw [e] at h; omega
      · have := log2_hi n
        have := Nat.pow_le_pow_right (show 0 < 2 by decide) (show n.log2 + 1 ≤ n.log2 + 2 by omega)
        omega
  refine Nat.le_trans (Nat.add_le_add_left (Bool.toNat_le _) _) ?_
  omega

/-- The rung of '2 ^ k'. -/
def pw (f : Format) (k : Int) : Nat := (k - f.fractionBits - f.leastPlace + 1).toNat * f.binade

/-- WHAT LIES BELOW '2 ^ k' IS ROUNDED TO '2 ^ k' AT MOST. -/
theorem nearest_below (f : Format) (neg : Bool) (m : Nat) (p k : Int) (hk : f.leastPlace ≤ k - f.fractionBits - 1) (h : m ≠ 0 → (m.log2 : Int) + p < k) : rung f (f.nearest neg m p) ≤ pw f k := by
  have hi := infRung_lt f
  unfold Format.nearest
  dsimp only
  split
  · rw [rung_word f neg 0 (sign_pos f)]; omega
  · rename_i hm
    have h := h hm
    rw [rung_word f neg _ (by omega)]
    refine Nat.le_trans (Nat.min_le_left _ _) ?_
    generalize hl : max (p + (m.log2 : Int) - f.fractionBits) f.leastPlace = last
    have hc : Toward.even.cut neg (m <<< (p - last).toNat) (last - p).toNat ≤ 2 * f.binade := by
      refine cut_le _ _ _ _ ?_
      rw [Nat.shiftLeft_eq]
      have a := log2_hi m
      have e : m * 2 ^ (p - last).toNat < 2 ^ (m.log2 + 1 + (p - last).toNat) := by
        rw [Nat.pow_add]; exact Nat.mul_lt_mul_of_pos_right a (Nat.two_pow_pos _)
      refine Nat.lt_of_lt_of_le e ?_
      unfold Format.binade
      rw [show 2 * 2 ^ f.fractionBits = 2 ^ (f.fractionBits + 1) by rw [Nat.pow_succ]; omega, ← Nat.pow_add]
      exact Nat.pow_le_pow_right (by decide) (by omega)
    have hq : (last - f.leastPlace).toNat ≤ (k - f.fractionBits - f.leastPlace + 1).toNat - 2 := by omega
    have h3 := Nat.mul_le_mul_right f.binade hq
    unfold pw
    have h4 : 2 ≤ (k - f.fractionBits - f.leastPlace + 1).toNat := by omega
    obtain ⟨c, hc'⟩ : ∃ c, (k - f.fractionBits - f.leastPlace + 1).toNat = c + 2 := ⟨(k - f.fractionBits - f.leastPlace + 1).toNat - 2, by omega⟩
    rw [hc'] at h3 ⊢
    rw [Nat.add_sub_cancel] at h3
    rw [Nat.add_mul]
    omega

theorem val_grid (f : Format) (mg q : Nat) (h1 : mg < 2 * f.binade) (h2 : q = 0 ∨ f.binade ≤ mg) : val f (q * f.binade + mg) = mg * 2 ^ q := by
  have hb := binade_pos f
  unfold val mag plc
  by_cases h : mg < f.binade
  · obtain rfl : q = 0 := by omega
    rw [if_pos (by omega), Nat.div_eq_of_lt (by omega)]; simp
  · obtain ⟨t, rfl⟩ : ∃ t, mg = f.binade + t := ⟨mg - f.binade, by omega⟩
    have e : q * f.binade + (f.binade + t) = f.binade * (q + 1) + t := by rw [Nat.mul_add, Nat.mul_comm f.binade q]; omega
    rw [e, if_neg (by rw [Nat.mul_add]; omega), Nat.mul_add_mod, Nat.mod_eq_of_lt (by omega), Nat.mul_add_div hb, Nat.div_eq_of_lt (by omega)]
    simp

theorem mag_lt (f : Format) (r : Nat) : mag f r < 2 * f.binade := by
  have hb := binade_pos f
  unfold mag
  split
  · omega
  · have := Nat.mod_lt r hb; omega

theorem scale_aux (m a b c d : Nat) (h : a + b = c + d) : m * 2 ^ a * 2 ^ b = m * 2 ^ c * 2 ^ d := by
  rw [Nat.mul_assoc, ← Nat.pow_add, Nat.mul_assoc, ← Nat.pow_add, h]

def wsc : Nat := 925

/-- A float32 that is a number is the same number as a float64. -/
theorem widen_num (b : Nat) (h : rung FloatKind.f32.format b < FloatKind.f32.format.infRung) :
    ∃ r, r < FloatKind.f64.format.infRung ∧ FloatKind.f64.encode (FloatKind.f32.decode b) = FloatKind.f64.format.word (sgn FloatKind.f32.format b) r ∧ val FloatKind.f64.format r = val FloatKind.f32.format (rung FloatKind.f32.format b) * 2 ^ wsc := by
  have hw : wsc = 925 := rfl
  have hd : FloatKind.f32.decode b = _ := read_num FloatKind.f32.format b h
  rw [hd]
  have hm := mag_lt FloatKind.f32.format (rung FloatKind.f32.format b)
  have hp : plc FloatKind.f32.format (rung FloatKind.f32.format b) ≤ 253 := by
    unfold plc
    have h' : rung FloatKind.f32.format b < 255 * 8388608 := h
    show rung FloatKind.f32.format b / 8388608 - 1 ≤ 253
    omega
  have hv : val FloatKind.f32.format (rung FloatKind.f32.format b) = mag FloatKind.f32.format (rung FloatKind.f32.format b) * 2 ^ plc FloatKind.f32.format (rung FloatKind.f32.format b) := rfl
  rw [hv]
  generalize mag FloatKind.f32.format (rung FloatKind.f32.format b) = m at *
  generalize plc FloatKind.f32.format (rung FloatKind.f32.format b) = q at *
  have hm' : m < 16777216 := hm
  show ∃ r, _ ∧ FloatKind.f64.format.nearest _ m _ = _ ∧ _
  by_cases h0 : m = 0
  · refine ⟨0, by decide, ?_, ?_⟩
    · unfold Format.nearest; rw [if_pos h0]
    · rw [h0, val_zero]; simp
  · have hL : m.log2 ≤ 23 := by
      have a := log2_lo m h0
      apply Classical.byContradiction
      intro hc
      have := Nat.pow_le_pow_right (show 0 < 2 by decide) (show 24 ≤ m.log2 by omega)
      omega
    have a := log2_lo m h0
    have b' := log2_hi m
    have e1 : 2 ^ (52 : Nat) ≤ m * 2 ^ (52 - m.log2) := by
      have := Nat.mul_le_mul_right (2 ^ (52 - m.log2)) a
      rwa [← Nat.pow_add, show m.log2 + (52 - m.log2) = 52 by omega] at this
    have e2 : m * 2 ^ (52 - m.log2) < 2 ^ (53 : Nat) := by
      have := Nat.mul_lt_mul_of_pos_right b' (Nat.two_pow_pos (52 - m.log2))
      rwa [← Nat.pow_add, show m.log2 + 1 + (52 - m.log2) = 53 by omega] at this
    have hb : FloatKind.f64.format.binade = 2 ^ 52 := rfl
    have g := nearest_grid FloatKind.f64.format (sgn FloatKind.f32.format b) m (925 + q : Nat) (m * 2 ^ (52 - m.log2)) (925 + q + m.log2 - 52) (by omega) (by rw [hb]; omega) (.inr (by rw [hb]; exact e1)) (by
      rw [show (-((925 + q : Nat) : Int)).toNat = 0 by omega, Nat.pow_zero, Nat.mul_one, Int.toNat_natCast, Nat.mul_assoc, ← Nat.pow_add]
      congr 2; omega)
    have hle : FloatKind.f64.format.leastPlace + ((925 + q : Nat) : Int) = FloatKind.f32.format.leastPlace + q := by
      have : FloatKind.f64.format.leastPlace = -1074 := by decide
      have : FloatKind.f32.format.leastPlace = -149 := by decide
      omega
    rw [hle] at g
    have hlt : (925 + q + m.log2 - 52) * FloatKind.f64.format.binade + m * 2 ^ (52 - m.log2) < FloatKind.f64.format.infRung := by
      have hi : FloatKind.f64.format.infRung = 2047 * 2 ^ 52 := by decide
      rw [hb, hi]
      have : (925 + q + m.log2 - 52) * 2 ^ 52 ≤ 1149 * 2 ^ 52 := Nat.mul_le_mul_right _ (by omega)
      omega
    refine ⟨_, hlt, ?_, ?_⟩
    · rw [g, Nat.min_eq_left (Nat.le_of_lt hlt)]
    · exact (val_grid _ _ _ (by rw [hb]; omega) (.inr (by rw [hb]; exact e1))).trans (scale_aux m _ _ _ _ (by omega))

theorem widen_inf (b : Nat) (h : rung FloatKind.f32.format b = FloatKind.f32.format.infRung) :
    FloatKind.f64.encode (FloatKind.f32.decode b) = FloatKind.f64.format.word (sgn FloatKind.f32.format b) FloatKind.f64.format.infRung := by
  have hd : FloatKind.f32.decode b = _ := read_inf FloatKind.f32.format (ok .f32) b h
  rw [hd]; rfl

theorem widen_notInf (b : Nat) (sg : Bool) (m : Nat) (e : Int) (h : FloatKind.f32.decode b = .number sg m e) : (FloatKind.f64.decode (FloatKind.f64.encode (.number sg m e))).isInfinity = false := by
  have hr : rung FloatKind.f32.format b < FloatKind.f32.format.infRung := by
    rcases Nat.lt_trichotomy (rung FloatKind.f32.format b) FloatKind.f32.format.infRung with h1 | h1 | h1
    · exact h1
    · have := read_inf FloatKind.f32.format (ok .f32) b h1
      rw [show FloatKind.f32.format.read b = FloatKind.f32.decode b from rfl, h] at this; cases this
    · have := read_nan FloatKind.f32.format (ok .f32) b h1
      rw [show FloatKind.f32.format.read b = FloatKind.f32.decode b from rfl, h] at this; cases this
  obtain ⟨r, h1, h2, _⟩ := widen_num b hr
  rw [h] at h2
  rw [h2]
  have hs := infRung_lt FloatKind.f64.format
  have : FloatKind.f64.decode (FloatKind.f64.format.word (sgn FloatKind.f32.format b) r) = _ := read_num FloatKind.f64.format (FloatKind.f64.format.word (sgn FloatKind.f32.format b) r) (by rw [rung_word _ _ _ (by omega)]; exact h1)
  rw [this]; rfl

/-! ### Comparisons of two words that are no NaN -/

theorem cmp_int (a b : Int) : (compare a b = .lt ↔ a < b) ∧ (compare a b = .eq ↔ a = b) ∧ (compare a b = .gt ↔ b < a) := by
  show (compareOfLessAndEq a b = .lt ↔ _) ∧ (compareOfLessAndEq a b = .eq ↔ _) ∧ (compareOfLessAndEq a b = .gt ↔ _)
  unfold compareOfLessAndEq
  by_cases h : a < b
  · simp only [if_pos h]; refine ⟨by simp [h], ?_, ?_⟩ <;> simp <;> omega
  · by_cases e : a = b
    · simp only [if_neg h, if_pos e]; refine ⟨?_, by simp [e], ?_⟩ <;> simp <;> omega
    · simp only [if_neg h, if_neg e]; refine ⟨?_, ?_, ?_⟩ <;> simp <;> omega

section
variable {k : FloatKind} {a b : Nat} (ha : rung k.format a ≤ k.format.infRung) (hb : rung k.format b ≤ k.format.infRung)
include ha hb
theorem feq : (k.format.order a b == some .eq) = decide (srung k.format a = srung k.format b) := by
  rw [order_eq _ (ok k) _ _ ha hb, Bool.eq_iff_iff, beq_iff_eq, decide_eq_true_iff, Option.some.injEq]; exact (cmp_int _ _).2.1
theorem flt : (k.format.order a b == some .lt) = decide (srung k.format a < srung k.format b) := by
  rw [order_eq _ (ok k) _ _ ha hb, Bool.eq_iff_iff, beq_iff_eq, decide_eq_true_iff, Option.some.injEq]; exact (cmp_int _ _).1
theorem fgt : (k.format.order a b == some .gt) = decide (srung k.format b < srung k.format a) := by
  rw [order_eq _ (ok k) _ _ ha hb, Bool.eq_iff_iff, beq_iff_eq, decide_eq_true_iff, Option.some.injEq]; exact (cmp_int _ _).2.2
theorem fle : (k.format.order a b == some .lt || k.format.order a b == some .eq) = decide (srung k.format a ≤ srung k.format b) := by
  rw [flt ha hb, feq ha hb, Bool.eq_iff_iff, Bool.or_eq_true, decide_eq_true_iff, decide_eq_true_iff, decide_eq_true_iff]; omega
theorem fge : (k.format.order a b == some .gt || k.format.order a b == some .eq) = decide (srung k.format b ≤ srung k.format a) := by
  rw [fgt ha hb, feq ha hb, Bool.eq_iff_iff, Bool.or_eq_true, decide_eq_true_iff, decide_eq_true_iff, decide_eq_true_iff]; omega
end

theorem srung_zero_iff (f : Format) (x : Nat) : srung f x = 0 ↔ rung f x = 0 := by
  unfold srung; cases sgn f x <;> simp

theorem eql_zero {x : Nat} (hx : x < 18446744073709551616) (hr : rung FloatKind.f64.format x ≤ FloatKind.f64.format.infRung) (h : (FloatKind.f64.format.order x 0 == some .eq) = true) : x = 0 ∨ x = 9223372036854775808 := by
  rw [feq hr (by decide), decide_eq_true_iff] at h
  have h1 : rung FloatKind.f64.format x = 0 := (srung_zero_iff _ _).1 (h.trans (by decide))
  have h2 : x % 9223372036854775808 = 0 := h1
  omega

/-- A float64 that is the word of a float32 that is no NaN. -/
def W (a : Nat) : Nat := FloatKind.f64.encode (FloatKind.f32.decode a)

theorem sgn_W (a : Nat) (h : rung FloatKind.f32.format a ≤ FloatKind.f32.format.infRung) : sgn FloatKind.f64.format (W a) = sgn FloatKind.f32.format a := by
  have hi := infRung_lt FloatKind.f64.format
  unfold W
  rcases Nat.lt_or_eq_of_le h with h | h
  · obtain ⟨r, h1, h2, _⟩ := widen_num a h
    rw [h2, sgn_word _ _ _ (by omega)]
  · rw [widen_inf a h, sgn_word _ _ _ hi]

theorem W_lt (a : Nat) : W a < 18446744073709551616 := FloatKind.f64.format.write_lt _

theorem W_rung (a : Nat) (h : rung FloatKind.f32.format a ≤ FloatKind.f32.format.infRung) : rung FloatKind.f64.format (W a) ≤ FloatKind.f64.format.infRung := by
  have hi := infRung_lt FloatKind.f64.format
  unfold W
  rcases Nat.lt_or_eq_of_le h with h | h
  · obtain ⟨r, h1, h2, _⟩ := widen_num a h
    rw [h2, rung_word _ _ _ (by omega)]; omega
  · rw [widen_inf a h, rung_word _ _ _ hi]; omega

theorem W_inf_iff (a : Nat) (h : rung FloatKind.f32.format a ≤ FloatKind.f32.format.infRung) : rung FloatKind.f64.format (W a) = FloatKind.f64.format.infRung ↔ rung FloatKind.f32.format a = FloatKind.f32.format.infRung := by
  have hi := infRung_lt FloatKind.f64.format
  unfold W
  rcases Nat.lt_or_eq_of_le h with h | h
  · obtain ⟨r, h1, h2, _⟩ := widen_num a h
    rw [h2, rung_word _ _ _ (by omega)]; omega
  · rw [widen_inf a h, rung_word _ _ _ hi]; simp [h]

theorem W_conv (a : Nat) (h : rung FloatKind.f32.format a ≤ FloatKind.f32.format.infRung) : floatToFloatBits .f32 a .f64 = some (W a) := by
  unfold floatToFloatBits W
  rw [if_neg (by decide)]
  have hn : ¬ FloatKind.f32.format.infRung < rung FloatKind.f32.format a := by omega
  cases hd : FloatKind.f32.decode a with
  | nan s t =>
    have := isNaN_iff FloatKind.f32.format (ok .f32) a
    rw [show FloatKind.f32.format.read a = FloatKind.f32.decode a from rfl, hd] at this
    simp [Datum.isNaN] at this; omega
  | infinity s => rfl
  | number s m e =>
    show (if _ = true then none else some _) = _
    rw [if_neg]
    rw [widen_notInf a s m e hd]; simp

/-- Two float32 words that are no NaN are one if they stand as equal and bear one sign. -/
theorem same_iff (a b : Nat) (ha : a < 4294967296) (hb : b < 4294967296) (ra : rung FloatKind.f32.format a ≤ FloatKind.f32.format.infRung) (rb : rung FloatKind.f32.format b ≤ FloatKind.f32.format.infRung) :
    ((FloatKind.f32.format.order a b == some .eq) = true ∧ sgn FloatKind.f32.format a = sgn FloatKind.f32.format b) ↔ a = b := by
  constructor
  · intro ⟨h, hs⟩
    rw [feq ra rb, decide_eq_true_iff] at h
    rw [word_of FloatKind.f32.format a ha, word_of FloatKind.f32.format b hb, hs]
    unfold srung at h
    rw [hs] at h
    congr 1
    split at h <;> omega
  · intro h; subst h
    exact ⟨by rw [feq ra ra]; simp, rfl⟩

theorem rung64_lt_iff (r s : Nat) : r < s ↔ val FloatKind.f64.format r < val FloatKind.f64.format s := (val_lt_iff _ _ _).symm

/-- The widening keeps the order of magnitudes. -/
theorem W_lt_iff (a b : Nat) (ha : rung FloatKind.f32.format a ≤ FloatKind.f32.format.infRung) (hb : rung FloatKind.f32.format b ≤ FloatKind.f32.format.infRung) :
    rung FloatKind.f64.format (W a) < rung FloatKind.f64.format (W b) ↔ rung FloatKind.f32.format a < rung FloatKind.f32.format b := by
  have hi := infRung_lt FloatKind.f64.format
  rcases Nat.lt_or_eq_of_le ha with h | h <;> rcases Nat.lt_or_eq_of_le hb with h' | h'
  · obtain ⟨r, h1, h2, h3⟩ := widen_num a h
    obtain ⟨s, h1', h2', h3'⟩ := widen_num b h'
    unfold W
    rw [h2, h2', rung_word _ _ _ (by omega), rung_word _ _ _ (by omega), rung64_lt_iff, h3, h3', Nat.mul_lt_mul_right (Nat.two_pow_pos wsc), val_lt_iff]
  · have e1 := (W_inf_iff b hb).2 h'
    have e2 := W_inf_iff a ha
    have e3 := W_rung a ha
    omega
  · have e1 := (W_inf_iff a ha).2 h
    have e3 := W_rung b hb
    omega
  · have e1 := (W_inf_iff a ha).2 h
    have e2 := (W_inf_iff b hb).2 h'
    omega

theorem W_zero_iff (a : Nat) (ha : rung FloatKind.f32.format a ≤ FloatKind.f32.format.infRung) : rung FloatKind.f64.format (W a) = 0 ↔ rung FloatKind.f32.format a = 0 := by
  have h := W_lt_iff 0 a (by decide) ha
  have h0 : rung FloatKind.f64.format (W 0) = 0 := by decide +kernel
  have h1 : rung FloatKind.f32.format 0 = 0 := by decide
  omega

end Go.Proofs.YtlhhedmammjieaaDoor.Flt
