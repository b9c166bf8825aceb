/- The angle in turns as a plain function of words: every step of it is a number, and small. -/
import Derived.Test.YtdomcjiiilbajaaSinePlain
namespace Go.Proofs.Ytdomcjiiilbajaa.Flt
open Ieee
open Go.RowKit

def sq (x : Nat) : Nat := (FloatKind.f64.format.sqrt x).getD 0

theorem sqrt_nn {x : Nat} {e : Int} (h : N x e) (he : e ≤ 1000) (he' : -1000 ≤ e) (hp : P x) : Nn .f64 (sqF (some x)) := by
  obtain ⟨m, i, e1, _⟩ := read_nb .f64 x e (rg64 (by omega) (by omega)) h
  rw [show sgn FloatKind.f64.format x = false from hp] at e1
  intro b hb
  have hb' : FloatKind.f64.format.sqrt x = some b := hb
  unfold Format.sqrt at hb'
  rw [e1] at hb'
  have hb2 : Option.map FloatKind.f64.format.write (if m = 0 then _ else _) = some b := hb'
  by_cases hm : m = 0
  · rw [if_pos hm] at hb2
    cases hb2
    exact sgn_nearest _ _ _ _
  · rw [if_neg hm, if_neg (by simp)] at hb2
    cases hb2
    exact sgn_nearest _ _ _ _

theorem sq_o {x : Nat} {e : Int} (h : N x (2 * e)) (hp : P x) (h1 : 0 ≤ e := by omega) (h2 : e ≤ 400 := by omega) : (∀ w, sB x w = sq x) ∧ N (sq x) e ∧ P (sq x) := by
  have hn := sqrt_nn h (by omega) (by omega) hp
  obtain ⟨b, hb, hr⟩ := sqrt_nb h.nb (rg64 (by omega) (by omega)) (rg64 (by omega) (by omega)) hp.nn
  have hb' : FloatKind.f64.format.sqrt x = some b := hb
  have hs : sq x = b := by unfold sq; rw [hb']; rfl
  refine ⟨fun w => by unfold sB; rw [hb', hs]; rfl, by rw [hs]; exact hr, ?_⟩
  rw [hs]; exact hn b hb

theorem P_of {op : BinOp} {x y : Nat} {e : Int} (h : Nn .f64 (fop op .f64 (some x) (some y))) (hb : Nb .f64 (fop op .f64 (some x) (some y)) e) : P (o op x y) := h _ (o_some hb)

/-- one plus a number that is not negative -/
theorem one_add {x : Nat} {e : Int} (h : N x e) (hp : P x) (h1 : 0 ≤ e := by omega) (h2 : e ≤ 400 := by omega) : (∀ w, fB .add .f64 4607182418800017408 x w = o .add 4607182418800017408 x) ∧ N (o .add 4607182418800017408 x) (e + 1) ∧ P (o .add 4607182418800017408 x) ∧ Lb .f64 (some (o .add 4607182418800017408 x)) 0 := by
  have hb := (N_one.mono h1).nb.add h.nb (rg64 (by omega) (by omega)) (rg64 (by omega) (by omega))
  obtain ⟨g1, g2⟩ := o_of hb
  refine ⟨g1, g2, P_of (add_nn (N_one.mono h1).nb h.nb (rg64 (by omega) (by omega)) (rg64 (by omega) (by omega)) P_one.nn hp.nn) hb, ?_⟩
  have hc : fop .add .f64 (some 4607182418800017408) (some x) = fop .add .f64 (some x) (some 4607182418800017408) := by
    show FloatKind.f64.format.add _ _ = FloatKind.f64.format.add _ _
    obtain ⟨m, i, e1, _⟩ := read_nb .f64 x e (rg64 (by omega) (by omega)) h
    rw [show sgn FloatKind.f64.format x = false from hp] at e1
    obtain ⟨m2, i2, e2, _⟩ := read_nb .f64 4607182418800017408 0 (rg64 (by decide) (by decide)) N_one
    rw [show sgn FloatKind.f64.format 4607182418800017408 = false from P_one] at e2
    unfold Format.add; rw [e1, e2]
    have key : ∀ (a b : Nat) (p q : Int), (Datum.number false a p).sum (.number false b q) = (Datum.number false b q).sum (.number false a p) := by
      intro a b p q
      show some (Datum.number _ _ _) = some (Datum.number _ _ _)
      rw [Int.min_comm p q, Int.add_comm (signed false a _)]
    rw [key]
  have := add_lb h.nb (N_one.mono h1).nb (rg64 (by omega) (by omega)) (rg64 (by omega) (by omega)) hp.nn P_one.nn (lb_small 4607182418800017408 0 (by decide) (by decide +kernel)) (rg64 (by decide) (by decide))
  rw [← hc, o_some hb] at this
  exact this

def angT (t : Nat) : Nat → Nat
  | 0 => t
  | i + 1 => o .quo (angT t i) (o .add 4607182418800017408 (sq (o .add 4607182418800017408 (o .mul (angT t i) (angT t i)))))
def angP (u : Nat) : Nat → Nat
  | 0 => 0
  | j + 1 => o .sub (o .quo 4607182418800017408 (floatOfInt .f64 (15 - 2 * (j : Int)))) (o .mul u (angP u j))
def angR (t : Nat) : Nat := o .quo (o .mul 4620693217682128896 (o .mul (angT t 3) (angP (o .mul (angT t 3) (angT t 3)) 8))) 4618760256179416344
def angQ (g : Bool) (r : Nat) : Nat := bif g then o .sub 4598175219545276416 r else r
def angX (g : Bool) (r : Nat) : Nat := bif g then o .sub 4602678819172646912 r else r
def angY (g : Bool) (r : Nat) : Nat := bif g then Op.negFloat .f64 r else r

theorem angT_step {t : Nat} (h : N t 0) : (∀ w1 w2 w3 w4 w5, fB .quo .f64 t (fB .add .f64 4607182418800017408 (sB (fB .add .f64 4607182418800017408 (fB .mul .f64 t t w1) w2) w3) w4) w5 = o .quo t (o .add 4607182418800017408 (sq (o .add 4607182418800017408 (o .mul t t))))) ∧
    N (o .quo t (o .add 4607182418800017408 (sq (o .add 4607182418800017408 (o .mul t t))))) 0 := by
  have h1 := o_mul h h
  have hm := h.nb.mul h.nb (rg64 (by decide) (by decide)) (rg64 (by decide) (by decide)) (rg64 (by decide) (by decide))
  have p1 : P (o .mul t t) := P_of (Nn.sq h.nb (rg64 (by decide) (by decide))) hm
  have h2 := one_add h1.2 p1
  have h3 := sq_o (e := 1) (h2.2.1.mono (by decide)) h2.2.2.1
  have h4 := one_add h3.2.1 h3.2.2
  have h5 := o_div h h4.2.2.2
  refine ⟨fun w1 w2 w3 w4 w5 => ?_, h5.2.mono (by decide)⟩
  rw [h1.1, h2.1, h3.1, h4.1, h5.1]

theorem angT_N (t : Nat) (h : N t 0) : ∀ i, N (angT t i) 0
  | 0 => h
  | i + 1 => (angT_step (angT_N t h i)).2

theorem k15_lb (j : Nat) (hj : j < 8) : Lb .f64 (some (floatOfInt .f64 (15 - 2 * (j : Int)))) 0 := by
  have h : ∀ j ∈ List.range 8, pw FloatKind.f64.format 0 ≤ rung FloatKind.f64.format (floatOfInt .f64 (15 - 2 * (j : Int))) ∧ rung FloatKind.f64.format (floatOfInt .f64 (15 - 2 * (j : Int))) ≤ FloatKind.f64.format.infRung := by decide +kernel
  exact ⟨_, rfl, h j (List.mem_range.2 hj)⟩

theorem angP_N (u : Nat) (hu : N u 0) : ∀ j, j ≤ 8 → N (angP u j) j
  | 0, _ => by show rung FloatKind.f64.format 0 ≤ pw FloatKind.f64.format 0; decide +kernel
  | j + 1, hj => by
    have ih := angP_N u hu j (by omega)
    have h1 := o_mul hu ih
    have h2 := o_div N_one (k15_lb j (by omega))
    have h3 := o_sub (h2.2.mono (show (0 - 0 : Int) ≤ 0 + j by omega)) h1.2
    exact h3.2.mono (by omega)

theorem angP_o (u : Nat) (hu : N u 0) (j : Nat) (hj : j < 8) : ∀ w w2 w3, fB .sub .f64 (fB .quo .f64 4607182418800017408 (floatOfInt .f64 (15 - 2 * (j : Int))) w) (fB .mul .f64 u (angP u j) w2) w3 = angP u (j + 1) := by
  intro w w2 w3
  have ih := angP_N u hu j (by omega)
  have h1 := o_mul hu ih
  have h2 := o_div N_one (k15_lb j (by omega))
  have h3 := o_sub (h2.2.mono (show (0 - 0 : Int) ≤ 0 + j by omega)) h1.2
  rw [h1.1, h2.1, h3.1]
  rfl

theorem N_quarter : N 4598175219545276416 0 := by show rung _ _ ≤ _; decide +kernel
theorem N_eight : N 4620693217682128896 3 := by show rung _ _ ≤ _; decide +kernel

/-- All the steps behind the quotient. -/
theorem ang_steps (t : Nat) (h : N t 0) : ∃ (t3 u r : Nat),
    t3 = angT t 3 ∧
    (∀ i, ∀ w1 w2 w3 w4 w5, fB .quo .f64 (angT t i) (fB .add .f64 4607182418800017408 (sB (fB .add .f64 4607182418800017408 (fB .mul .f64 (angT t i) (angT t i) w1) w2) w3) w4) w5 = angT t (i + 1)) ∧
    (∀ w, fB .mul .f64 t3 t3 w = u) ∧
    (∀ j : Nat, j < 8 → ∀ w w2 w3, fB .sub .f64 (fB .quo .f64 4607182418800017408 (floatOfInt .f64 (15 - 2 * (j : Int))) w) (fB .mul .f64 u (angP u j) w2) w3 = angP u (j + 1)) ∧
    (∀ w w1 w2, fB .quo .f64 (fB .mul .f64 4620693217682128896 (fB .mul .f64 t3 (angP u 8) w) w1) 4618760256179416344 w2 = r) ∧ r = angR t ∧ N r 9 := by
  have h3 := angT_N t h 3
  have h4 := o_mul h3 h3
  have hp := angP_N (o .mul (angT t 3) (angT t 3)) (h4.2.mono (by decide)) 8 (by decide)
  have h5 := o_mul h3 hp
  have h6 := o_mul N_eight h5.2
  have h7 := o_div h6.2 (lb_small 4618760256179416344 2 (by decide) (by decide +kernel))
  refine ⟨_, _, _, rfl, fun i => (angT_step (angT_N t h i)).1, h4.1, fun j hj => angP_o _ (h4.2.mono (by decide)) j hj, fun w w1 w2 => ?_, rfl, h7.2.mono (by decide)⟩
  rw [h5.1, h6.1, h7.1]
  rfl

theorem angQ_o (r : Nat) (h : N r 9) (g : Bool) : (g = true → ∀ w, fB .sub .f64 4598175219545276416 r w = angQ g r) ∧ (g = false → r = angQ g r) ∧ N (angQ g r) 10 := by
  cases g with
  | true =>
    have := o_sub (N_quarter.mono (show (0 : Int) ≤ 9 by decide)) h
    exact ⟨fun _ => this.1, fun e => (by cases e), this.2⟩
  | false => exact ⟨fun e => (by cases e), fun _ => rfl, h.mono (by decide)⟩
theorem angX_o (r : Nat) (h : N r 10) (g : Bool) : (g = true → ∀ w, fB .sub .f64 4602678819172646912 r w = angX g r) ∧ (g = false → r = angX g r) ∧ N (angX g r) 11 := by
  cases g with
  | true =>
    have := o_sub (N_half.mono (show (0 : Int) ≤ 10 by decide)) h
    exact ⟨fun _ => this.1, fun e => (by cases e), this.2⟩
  | false => exact ⟨fun e => (by cases e), fun _ => rfl, h.mono (by decide)⟩
theorem angY_N (r : Nat) (h : N r 11) (g : Bool) : N (angY g r) 100 := by
  cases g with
  | true => show rung _ (Op.negFloat .f64 r) ≤ _; rw [rung_neg]; exact h.mono (by decide)
  | false => exact h.mono (by decide)

def angA (y x : Nat) : Nat := bif decide (rung FloatKind.f64.format x < rung FloatKind.f64.format y) then o .quo (x % 9223372036854775808) (y % 9223372036854775808) else o .quo (y % 9223372036854775808) (x % 9223372036854775808)
def angW (y x : Nat) : Nat := angY (FloatKind.f64.format.order y 0 == some .lt) (angX (FloatKind.f64.format.order x 0 == some .lt) (angQ (decide (rung FloatKind.f64.format x < rung FloatKind.f64.format y)) (angR (angA y x))))

theorem rung_mod (x : Nat) : rung FloatKind.f64.format (x % 9223372036854775808) = rung FloatKind.f64.format x := by
  show x % 9223372036854775808 % 9223372036854775808 = x % 9223372036854775808
  omega

theorem angA_o (y x : Nat) (hy : rung FloatKind.f64.format y < FloatKind.f64.format.infRung) (hx : rung FloatKind.f64.format x < FloatKind.f64.format.infRung) (hz : ¬ (rung FloatKind.f64.format x = 0 ∧ rung FloatKind.f64.format y = 0)) :
    (decide (rung FloatKind.f64.format x < rung FloatKind.f64.format y) = true → ∀ w, fB .quo .f64 (x % 9223372036854775808) (y % 9223372036854775808) w = angA y x) ∧
    (decide (rung FloatKind.f64.format x < rung FloatKind.f64.format y) = false → ∀ w, fB .quo .f64 (y % 9223372036854775808) (x % 9223372036854775808) w = angA y x) ∧ N (angA y x) 0 := by
  unfold angA
  by_cases hg : rung FloatKind.f64.format x < rung FloatKind.f64.format y
  · rw [decide_eq_true hg]
    have := o_of (div_le_one (x := x % 9223372036854775808) (y := y % 9223372036854775808) (by rw [rung_mod, rung_mod]; omega) (by rw [rung_mod]; exact hy) (by rw [rung_mod]; omega))
    exact ⟨fun _ => this.1, fun e => (by cases e), this.2⟩
  · rw [decide_eq_false hg]
    have := o_of (div_le_one (x := y % 9223372036854775808) (y := x % 9223372036854775808) (by rw [rung_mod, rung_mod]; omega) (by rw [rung_mod]; exact hx) (by rw [rung_mod]; omega))
    exact ⟨fun e => (by cases e), fun _ => this.1, this.2⟩

theorem angW_N (y x : Nat) (hy : rung FloatKind.f64.format y < FloatKind.f64.format.infRung) (hx : rung FloatKind.f64.format x < FloatKind.f64.format.infRung) (hz : ¬ (rung FloatKind.f64.format x = 0 ∧ rung FloatKind.f64.format y = 0)) : N (angW y x) 100 := by
  obtain ⟨_, _, ha⟩ := angA_o y x hy hx hz
  obtain ⟨_, _, r, _, _, _, _, _, hr, hN⟩ := ang_steps _ ha
  unfold angW
  rw [← hr]
  exact angY_N _ (angX_o _ (angQ_o _ hN _).2.2 _).2.2 _

end Go.Proofs.Ytdomcjiiilbajaa.Flt
