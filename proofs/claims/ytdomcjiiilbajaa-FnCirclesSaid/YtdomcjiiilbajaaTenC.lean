/- The contract of the program's TenthsOf. -/
import Derived.Test.YtdomcjiiilbajaaLogC
namespace Go.Proofs.Ytdomcjiiilbajaa
open Go.RowKit
open Ieee

namespace Flt
theorem cut_any (way : Toward) (neg : Bool) (n d b : Nat) (h : n ≤ b * 2 ^ d) : way.cut neg n d ≤ b + 1 := by
  unfold Toward.cut
  dsimp only
  rw [Nat.one_shiftLeft]
  have key : n / 2 ^ min d (n.log2 + 2) ≤ b := by
    by_cases hd : d ≤ n.log2 + 2
    · rw [Nat.min_eq_left hd]
      have hp := Nat.two_pow_pos d
      exact Nat.div_le_of_le_mul (by rw [Nat.mul_comm]; exact h)
    · rw [Nat.min_eq_right (by omega), Nat.div_eq_of_lt]
      · exact Nat.zero_le _
      · have := log2_hi n
        have := Nat.pow_le_pow_right (show 0 < 2 by decide) (show n.log2 + 1 ≤ n.log2 + 2 by omega)
        omega
  exact Nat.add_le_add key (Bool.toNat_le _)

theorem cut_le2 (way : Toward) (neg : Bool) (m : Nat) (p e : Int) (he : 0 ≤ e) (h : Le2 m p e) : way.cut neg (m <<< p.toNat) (-p).toNat ≤ 2 ^ e.toNat + 1 := by
  refine cut_any _ _ _ _ _ ?_
  rw [Nat.shiftLeft_eq]
  rcases h with h | ⟨n, h1, h2⟩
  · rw [h, Nat.zero_mul]; exact Nat.zero_le _
  · by_cases hp : 0 ≤ p
    · rw [show (-p).toNat = 0 by omega, Nat.pow_zero, Nat.mul_one]
      refine Nat.le_trans (Nat.mul_le_mul_right _ h2) ?_
      rw [← Nat.pow_add]
      exact Nat.pow_le_pow_right (by decide) (by omega)
    · rw [show p.toNat = 0 by omega, Nat.pow_zero, Nat.mul_one, ← Nat.pow_add]
      exact Nat.le_trans h2 (Nat.pow_le_pow_right (by decide) (by omega))

/-- the greatest whole number not above -/
def flr (b : Nat) : Nat := FloatKind.f64.encode ((FloatKind.f64.decode b).integral .down)

theorem flr_nb (b : Nat) (e : Int) (he : 0 ≤ e) (h1 : Rg FloatKind.f64.format e) (h2 : Rg FloatKind.f64.format (e + 1)) (h : rung FloatKind.f64.format b ≤ pw FloatKind.f64.format e) : Nb .f64 (some (flr b)) (e + 1) := by
  obtain ⟨m, p, e1, l1⟩ := read_nb .f64 b e h1 h
  unfold flr
  rw [show FloatKind.f64.decode b = _ from e1]
  refine nearest_nb .f64 _ _ _ _ h2 (.inr ⟨(e + 1).toNat, by omega, ?_⟩)
  have := cut_le2 .down (sgn FloatKind.f64.format b) m p e he l1
  have hp := Nat.two_pow_pos e.toNat
  rw [show (e + 1).toNat = e.toNat + 1 by omega, Nat.pow_succ]
  omega

theorem toInt_some (b : Nat) (e : Int) (he : 0 ≤ e) (he' : e ≤ 60) (h : rung FloatKind.f64.format b ≤ pw FloatKind.f64.format e) : ∃ n, floatToIntVal .f64 b .i64 = some n := by
  obtain ⟨m, p, e1, l1⟩ := read_nb .f64 b e (rg64 (by omega) (by omega)) h
  have hc := cut_le2 .zero (sgn FloatKind.f64.format b) m p e he l1
  have hle : 2 ^ e.toNat ≤ 2 ^ 60 := Nat.pow_le_pow_right (by decide) (by omega)
  refine ⟨signed (sgn FloatKind.f64.format b) (Toward.zero.cut (sgn FloatKind.f64.format b) (m <<< p.toNat) (-p).toNat) 0, ?_⟩
  unfold floatToIntVal
  rw [show FloatKind.f64.decode b = _ from e1]
  show (if _ then _ else _) = _
  rw [if_pos]
  generalize Toward.zero.cut (sgn FloatKind.f64.format b) (m <<< p.toNat) (-p).toNat = c at *
  rw [signed_val, Nat.pow_zero, Nat.mul_one]
  have e1 : IntKind.i64.min = -9223372036854775808 := by decide
  have e2 : IntKind.i64.max = 9223372036854775807 := by decide
  rw [e1, e2]
  have : c ≤ 2 ^ 60 + 1 := by omega
  cases sgn FloatKind.f64.format b <;> simp <;> omega
end Flt

def tenV (x : Nat) : Option Nat := Flt.fop .add .f64 (Flt.fop .mul .f64 (Flt.logV (Flt.W x)) (some 4631308968768463603)) (some 4602678819172646912)
def tenB (x : Nat) : Nat := (tenV x).getD 0
def tenI (x : Nat) : Int := (floatToIntVal .f64 (Flt.flr (tenB x)) .i64).getD 0

theorem ten_nb (x : Nat) (h0 : x ≠ 0) (h : x < 2139095040) : Flt.Nb .f64 (tenV x) 49 := by
  obtain ⟨a, b⟩ := Flt.W_pos x (by omega) h
  have h1 := (Flt.logV_nb _ a b).mul (Flt.nb_small 4631308968768463603 6 (by decide) (by decide +kernel)) (Flt.rg64 (by decide) (by decide)) (Flt.rg64 (by decide) (by decide)) (Flt.rg64 (by decide) (by decide))
  exact h1.add (Flt.nb_small 4602678819172646912 _ (by decide) (by decide +kernel)) (Flt.rg64 (by decide) (by decide)) (Flt.rg64 (by decide) (by decide))

theorem ten_eq (x r : Nat) (h0 : x ≠ 0) (h : x < 2139095040) (hr : Flt.Fl .f64 (Flt.logV (Flt.W x)) r) (w w' : World) : Flt.fB .add .f64 (Flt.fB .mul .f64 r 4631308968768463603 w) 4602678819172646912 w' = tenB x := by
  have hf : Flt.Fl .f64 (tenV x) _ := fop_Fl (fop_Fl hr (Fl_small 4631308968768463603 (by decide)) w) (Fl_small 4602678819172646912 (by decide)) w'
  obtain ⟨b, hb, _⟩ := ten_nb x h0 h
  have hc := hf.cls
  unfold tenB
  rw [hb] at hc ⊢
  exact (Flt.cls_some hc).1.symm

theorem ten_rung (x : Nat) (h0 : x ≠ 0) (h : x < 2139095040) : Flt.rung FloatKind.f64.format (tenB x) ≤ Flt.pw FloatKind.f64.format 49 := by
  obtain ⟨b, hb, hr⟩ := ten_nb x h0 h
  unfold tenB; rw [hb]; exact hr

theorem run_floor (b : Nat) (w : World) (h : Flt.rung FloatKind.f64.format b < FloatKind.f64.format.infRung) : (Extern.MathFloor.toIntegral "math.archFloor" .down #[.float .f64 b]).run Try.prog w = .ok (.float .f64 (Flt.flr b)) w := by
  change Sem.run Try.prog (match FloatKind.f64.decode b with
    | .nan s t =>
      if FloatKind.f64.format.quiet t = t then pure (Value.float .f64 b) else do
      let kept ← choose (.extern "math.Floor,Ceil,Trunc,RoundToEven.signallingNaN kept" 2)
      pure (Value.float .f64 (if kept == 1 then b else FloatKind.f64.encode (.nan s (FloatKind.f64.format.quiet t))))
    | d => pure (Value.float .f64 (FloatKind.f64.encode (d.integral .down)))) w = _
  unfold Flt.flr
  rw [show FloatKind.f64.decode b = _ from Flt.read_num _ b h]
  rfl

theorem call_floor (b : Nat) (w : World) (h : Flt.rung FloatKind.f64.format b < FloatKind.f64.format.infRung) : (callFunc 51 #[.float .f64 b]).run Try.prog w = .ok (.value (.float .f64 (Flt.flr b))) w := by
  rw [run_callFunc_extern (e := Extern.MathFloor.toIntegral "math.archFloor" .down) Try.func51 (by kernel_rfl) (by kernel_rfl) (by kernel_rfl) (by kernel_rfl), run_floor b w h]
  rfl

theorem ten_facts (x : Nat) (h0 : x ≠ 0) (h : x < 2139095040) :
    (∀ w, (callFunc 51 #[.float .f64 (tenB x)]).run Try.prog w = .ok (.value (.float .f64 (Flt.flr (tenB x)))) w) ∧
    (∀ w, (convert 25 2 (.float .f64 (Flt.flr (tenB x)))).run Try.prog w = .ok (.int .i64 (tenI x)) w) := by
  have hr := ten_rung x h0 h
  have hlt : Flt.pw FloatKind.f64.format 49 < FloatKind.f64.format.infRung := by decide +kernel
  refine ⟨fun w => call_floor _ w (by omega), fun w => ?_⟩
  obtain ⟨b, hb, hb2⟩ := Flt.flr_nb (tenB x) 49 (by decide) (Flt.rg64 (by decide) (by decide)) (Flt.rg64 (by decide) (by decide)) hr
  cases hb
  obtain ⟨n, hn⟩ := Flt.toInt_some _ 50 (by decide) (by decide) hb2
  refine run_convert_float_int w _ _ _ _ _ _ (by kernel_rfl) Try.underlying2 ?_
  unfold tenI; rw [hn]; rfl

def posB (x : Nat) : Bool := decide (x ≠ 0 ∧ x < 2139095040)

theorem le_zero (x : Nat) (hx : x < 4294967296) (hf : finB x = true) : (FloatKind.f32.format.order x 0 == some .lt || FloatKind.f32.format.order x 0 == some .eq) = !posB x := by
  unfold finB at hf
  rw [decide_eq_true_iff] at hf
  rw [Flt.fle (by omega) (by decide)]
  have hz : Flt.srung FloatKind.f32.format 0 = 0 := by decide
  rw [hz]
  unfold posB Flt.srung Flt.sgn
  have hs : FloatKind.f32.format.signWeight = 2147483648 := by decide
  rw [inf32] at hf
  rw [rung32, hs] at *
  rw [Bool.eq_iff_iff]
  by_cases h : x / 2147483648 % 2 = 1
  · simp [h]; omega
  · simp [h]; omega

set_option maxHeartbeats 1000000 in
theorem ten_impl (x : Nat) (w : World) (hx : x < 4294967296) : Calls Try.prog 22 #[.float .f32 x] w fun e w' => e = .returned (.tuple #[.int .i64 (if posB x then tenI x else 0), .bool (posB x)]) ∧ ∃ m, w' = w.drewN m := by
  cases hfin : finB x with
  | false =>
    have hb : posB x = false := by
      unfold finB at hfin
      rw [decide_eq_false_iff_not, rung32, inf32] at hfin
      unfold posB; exact decide_eq_false (by omega)
    rw [hb]
    simp only [Bool.false_eq_true, if_false]
    clear hx hb
    go_enter Try.func22, Try.ntmps22
    go_wp2_with (first | (go_at_call 25; refine (isFinite_impl _ _).mono ?_; rw [hfin]; rintro e w' ⟨rfl, m, rfl⟩) | go_in)
    go_ret2
    exact ⟨rfl, by repeat (first | exact ⟨0, rfl⟩ | exact ⟨_, rfl⟩)⟩
  | true =>
    have hle := le_zero x hx hfin
    cases hb : posB x with
    | false =>
      rw [hb] at hle
      simp only [Bool.false_eq_true, if_false]
      clear hx hb
      go_enter Try.func22, Try.ntmps22
      go_wp2_with (first | (go_at_call 25; refine (isFinite_impl _ _).mono ?_; rw [hfin]; rintro e w' ⟨rfl, m, rfl⟩) | go_in)
      go_ret2
      exact ⟨rfl, by repeat (first | exact ⟨0, rfl⟩ | exact ⟨_, rfl⟩)⟩
    | true =>
      rw [hb] at hle
      simp only [if_true]
      unfold posB at hb
      rw [decide_eq_true_iff] at hb
      obtain ⟨h0, h1⟩ := hb
      have hp := Flt.W_pos x (by omega) h1
      have hw : ∀ w, Flt.cB .f32 .f64 x w = Flt.W x := fun w => wide_eq x (by rw [rung32, inf32]; omega) w
      have hE : Hid (∀ r, Flt.Fl .f64 (Flt.logV (Flt.W x)) r → ∀ w w', Flt.fB .add .f64 (Flt.fB .mul .f64 r 4631308968768463603 w) 4602678819172646912 w' = tenB x) := fun r hr w w' => ten_eq x r h0 h1 hr w w'
      obtain ⟨hc1, hc2⟩ := ten_facts x h0 h1
      clear hx h0 h1
      go_enter Try.func22, Try.ntmps22
      go_wp2_with (first | (go_at_call 25; refine (isFinite_impl _ _).mono ?_; rw [hfin]; rintro e w' ⟨rfl, m, rfl⟩) | (go_at_call 39; refine (log_impl (Flt.W x) _ _ ⟨x, rfl, hw⟩ hp.1 hp.2).mono ?_; rintro e w' ⟨r, rfl, hr, m, rfl⟩; have hT := hE.out r hr) | go_in)
      go_ret2
      exact ⟨rfl, by repeat (first | exact ⟨0, rfl⟩ | exact ⟨_, rfl⟩)⟩


end Go.Proofs.Ytdomcjiiilbajaa
