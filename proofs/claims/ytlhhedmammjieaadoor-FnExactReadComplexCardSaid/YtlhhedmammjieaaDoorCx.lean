/- Complex numbers in a walk: conversions, comparison, parts; the law's sameComplex. -/
import Derived.Test.YtlhhedmammjieaaDoorFMark
namespace Go.Proofs.YtlhhedmammjieaaDoor
open Go.RowKit Opn

section
variable {P : Program}

theorem run_ff (s k : FloatKind) (hsk : s ≠ k) (b : Nat) (w : World) : (Conv.floatToFloat s b k).run P w = .ok (.float k (Flt.cB s k b w)) (w.drewN (Flt.cN s k b)) := by
  unfold Conv.floatToFloat Flt.cB Flt.cN
  rw [if_neg hsk]
  have hfo : (Question.nanConv k b).forced = false := rfl
  have hfo' : (Question.floatToFloat b).forced = false := rfl
  cases hdec : s.decode b with
  | nan sg t => simp [hfo]; rfl
  | infinity sg => simp; rfl
  | number sg m e =>
    by_cases h : (k.decode (k.encode (.number sg m e))).isInfinity = true
    · simp [h, hfo']; rfl
    · simp [h]; rfl

theorem run_cc (src dst : TypeId) (s k : FloatKind) (hsk : s ≠ k) (hs : (P.underlying src).isSome = true) (hd : P.underlying dst = some (.complex k)) (a b : Nat) (w : World) :
    (convert src dst (.complex s a b)).run P w = .ok (.complex k (Flt.cB s k a w) (Flt.cB s k b (w.drewN (Flt.cN s k a)))) ((w.drewN (Flt.cN s k a)).drewN (Flt.cN s k b)) := by
  obtain ⟨u, hs'⟩ := Option.isSome_iff_exists.1 hs
  have red : (convert src dst (.complex s a b)).run P w = (Conv.complexToComplex s a b k).run P w := by
    cases u <;> simp [convert, run_underlying hs', run_underlying hd]
  rw [red]
  unfold Conv.complexToComplex
  simp [Sem.run_bind, run_ff s k hsk]

@[go_sem] theorem run_cwiden (src dst : TypeId) (a b : Nat) (w : World) (hs : (P.underlying src).isSome = true) (hd : P.underlying dst = some (.complex .f64)) :
    (convert src dst (.complex .f32 a b)).run P w = .ok (.complex .f64 (Flt.cB .f32 .f64 a w) (Flt.cB .f32 .f64 b (w.drewN (Flt.cN .f32 .f64 a)))) ((w.drewN (Flt.cN .f32 .f64 a)).drewN (Flt.cN .f32 .f64 b)) := run_cc src dst .f32 .f64 (by decide) hs hd a b w
@[go_sem] theorem run_cnarrow (src dst : TypeId) (a b : Nat) (w : World) (hs : (P.underlying src).isSome = true) (hd : P.underlying dst = some (.complex .f32)) :
    (convert src dst (.complex .f64 a b)).run P w = .ok (.complex .f32 (Flt.cB .f64 .f32 a w) (Flt.cB .f64 .f32 b (w.drewN (Flt.cN .f64 .f32 a)))) ((w.drewN (Flt.cN .f64 .f32 a)).drewN (Flt.cN .f64 .f32 b)) := run_cc src dst .f64 .f32 (by decide) hs hd a b w

@[go_sem] theorem run_cneq (t : TypeId) (k : FloatKind) (a b c d : Nat) (w : World) : (binOp .neq t (.complex k a b) (.complex k c d)).run P w = .ok (.bool !((k.format.order a c == some .eq) && (k.format.order b d == some .eq))) w := by
  simp [binOp, Op.complexOp, Op.Complex.cmp, Op.floatCmp, asBool]
end

set_option maxRecDepth 20000 in
set_option maxHeartbeats 2000000 in
theorem sameC_any (v u : Option Nat) (a b c d : Nat) (w : World) (ha : Flt.Fl .f64 v a) (hc : Flt.Fl .f64 v c) (hb : Flt.Fl .f64 u b) (hd : Flt.Fl .f64 u d) : Calls Tryd.prog 28 #[.complex .f64 a b, .complex .f64 c d] w fun e w' => e = .returned (.bool true) ∧ w' = w := by
  have h1 := fun w0 => sameFloat_any v a c w0 ha hc
  have h2 := fun w0 => sameFloat_any u b d w0 hb hd
  go_enter Tryd.func28, Tryd.ntmps28
  go_wp2_with (go_at_call 23; first | (with_reducible refine (h1 _).mono ?_; rintro e w' ⟨rfl, hw'⟩; subst hw') | (with_reducible refine (h2 _).mono ?_; rintro e w' ⟨rfl, hw'⟩; subst hw'))
  go_ret
  exact ⟨rfl, rfl⟩

end Go.Proofs.YtlhhedmammjieaaDoor
