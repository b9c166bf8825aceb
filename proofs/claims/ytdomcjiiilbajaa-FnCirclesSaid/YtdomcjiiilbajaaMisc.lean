/- Small helps for walks on floats. -/
import Derived.Test.YtdomcjiiilbajaaLogPlain
import Derived.Test.YtdomcjiiilbajaaFin
namespace Go.Proofs.Ytdomcjiiilbajaa
open Go.RowKit

def fltOf : Value → Nat | .float _ b => b | _ => 0

theorem fB_some {op : BinOp} {k : FloatKind} {x y r : Nat} (h : floatBits op k x y = some r) (w : World) : Flt.fB op k x y w = r := by unfold Flt.fB; rw [h]; rfl

theorem drewN_ex {w wr : World} (h : ∃ m, wr = w.drewN m) (n : Nat) : ∃ m, wr.drewN n = w.drewN m := by
  obtain ⟨m, rfl⟩ := h
  exact ⟨m + n, by rw [World.drewN_drewN]⟩

theorem fop_Fl {op : BinOp} {k : FloatKind} {a b : Option Nat} {x y : Nat} (hx : Flt.Fl k a x) (hy : Flt.Fl k b y) (w : World) : Flt.Fl k (Flt.fop op k a b) (Flt.fB op k x y w) := by
  have := Flt.fB_Fl op k x y w
  rwa [hx.cls, hy.cls] at this

theorem Fl_small (x : Nat) (h : x < 9218868437227405312) : Flt.Fl .f64 (some x) x := ⟨Flt.cls_small x h, show x < 18446744073709551616 by omega⟩
theorem Fl_int (e : Int) : Flt.Fl .f64 (some (floatOfInt .f64 e)) (floatOfInt .f64 e) := by
  show Flt.Fl .f64 (some (FloatKind.f64.format.write (.number (e < 0) e.natAbs 0))) (FloatKind.f64.format.write (.number (e < 0) e.natAbs 0))
  refine ⟨?_, FloatKind.f64.format.write_lt _⟩
  have := Flt.rung_write FloatKind.f64.format (.number (e < 0) e.natAbs 0) rfl
  unfold Flt.cls; rw [if_neg (by show ¬ _ < Flt.rung FloatKind.f64.format (FloatKind.f64.format.write _); omega)]

theorem rung32 (x : Nat) : Flt.rung FloatKind.f32.format x = x % 2147483648 := rfl
theorem inf32 : FloatKind.f32.format.infRung = 2139095040 := by decide

/-- the widened word: what the tests of the wide logarithm see -/
theorem wide_eq (x : Nat) (h : Flt.rung FloatKind.f32.format x ≤ FloatKind.f32.format.infRung) (w : World) : Flt.cB .f32 .f64 x w = Flt.W x := by
  have hf := Flt.widen_Fl x w
  have e : Flt.cls .f32 x = some x := by unfold Flt.cls; rw [if_neg (by omega)]
  rw [e] at hf
  exact (Flt.cls_some hf.cls).1.symm

theorem nan_narrow (w : World) : Flt.Fl .f32 none (Flt.cB .f64 .f32 9221120237041090561 w) := by
  have := Flt.narrow_Fl 9221120237041090561 w (by rw [show Flt.cls .f64 9221120237041090561 = none by decide +kernel]; exact Flt.narOk_none)
  rwa [show Flt.cls .f64 9221120237041090561 = none by decide +kernel] at this
end Go.Proofs.Ytdomcjiiilbajaa
