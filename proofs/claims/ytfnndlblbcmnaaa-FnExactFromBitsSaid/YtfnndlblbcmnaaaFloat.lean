/- The steps of a walk at operations on floats: each gives a word of which the class alone is told (none: a NaN, whose bits the tape chooses). -/
import Derived.WalkKit
import Derived.WalkLawsBesides
import Derived.Deep.Draws
import Derived.Laws.FloatArith
import Derived.Test.YtfnndlblbcmnaaaFlt
namespace Go.Proofs.Ytfnndlblbcmnaaa.Flt
open Ieee
open Go.RowKit

/-- THE WORD r IS OF THE CLASS v. -/
def Fl (k : FloatKind) (v : Option Nat) (r : Nat) : Prop := cls k r = v ∧ r < 2 ^ k.format.width

/-- A call hands back a float of the class v, and leaves the world as it was but for draws. -/
def FRet (k : FloatKind) (v : Option Nat) (w : World) (e : Ending) (w' : World) : Prop := ∃ r n, e = .returned (.float k r) ∧ Fl k v r ∧ w' = w.drewN n

theorem Fl.cls {k : FloatKind} {v : Option Nat} {r : Nat} (h : Fl k v r) : cls k r = v := h.1
theorem Fl.lt {k : FloatKind} {v : Option Nat} {r : Nat} (h : Fl k v r) : r < 2 ^ k.format.width := h.2
theorem Fl.of {k : FloatKind} {r : Nat} (h : r < 2 ^ k.format.width) : Fl k (Flt.cls k r) r := ⟨rfl, h⟩

theorem nanBits_cut (k : FloatKind) (x y t : Nat) : k.format.infRung < rung k.format ((Question.nanBits k x y).cut t) ∧ (Question.nanBits k x y).cut t < 2 ^ k.format.width := by
  cases k
  · show 2139095040 < ((t % 2) * 2 ^ 31 + 0x7f800000 + 1 + (t / 2) % (2 ^ 23 - 1)) % 2147483648 ∧ ((t % 2) * 2 ^ 31 + 0x7f800000 + 1 + (t / 2) % (2 ^ 23 - 1)) < 4294967296
    have ha : t % 2 < 2 := Nat.mod_lt _ (by decide)
    have hc : (t / 2) % (2 ^ 23 - 1) < 8388607 := Nat.mod_lt _ (by decide)
    generalize t % 2 = a at *
    generalize (t / 2) % (2 ^ 23 - 1) = c at *
    omega
  · show 9218868437227405312 < ((t % 2) * 2 ^ 63 + 0x7ff0000000000000 + 1 + (t / 2) % (2 ^ 52 - 1)) % 9223372036854775808 ∧ ((t % 2) * 2 ^ 63 + 0x7ff0000000000000 + 1 + (t / 2) % (2 ^ 52 - 1)) < 18446744073709551616
    have ha : t % 2 < 2 := Nat.mod_lt _ (by decide)
    have hc : (t / 2) % (2 ^ 52 - 1) < 4503599627370495 := Nat.mod_lt _ (by decide)
    generalize t % 2 = a at *
    generalize (t / 2) % (2 ^ 52 - 1) = c at *
    omega

theorem nanConv_cut (k : FloatKind) (x t : Nat) : k.format.infRung < rung k.format ((Question.nanConv k x).cut t) ∧ (Question.nanConv k x).cut t < 2 ^ k.format.width := by
  cases k
  · show 2139095040 < ((t % 2) * 2 ^ 31 + 0x7f800000 + 1 + (t / 2) % (2 ^ 23 - 1)) % 2147483648 ∧ ((t % 2) * 2 ^ 31 + 0x7f800000 + 1 + (t / 2) % (2 ^ 23 - 1)) < 4294967296
    have ha : t % 2 < 2 := Nat.mod_lt _ (by decide)
    have hc : (t / 2) % (2 ^ 23 - 1) < 8388607 := Nat.mod_lt _ (by decide)
    generalize t % 2 = a at *
    generalize (t / 2) % (2 ^ 23 - 1) = c at *
    omega
  · show 9218868437227405312 < ((t % 2) * 2 ^ 63 + 0x7ff0000000000000 + 1 + (t / 2) % (2 ^ 52 - 1)) % 9223372036854775808 ∧ ((t % 2) * 2 ^ 63 + 0x7ff0000000000000 + 1 + (t / 2) % (2 ^ 52 - 1)) < 18446744073709551616
    have ha : t % 2 < 2 := Nat.mod_lt _ (by decide)
    have hc : (t / 2) % (2 ^ 52 - 1) < 4503599627370495 := Nat.mod_lt _ (by decide)
    generalize t % 2 = a at *
    generalize (t / 2) % (2 ^ 52 - 1) = c at *
    omega

def arith : BinOp → Bool
  | .add | .sub | .mul | .quo => true
  | _ => false

theorem floatBits_lt {op : BinOp} {k : FloatKind} {x y r : Nat} (h : floatBits op k x y = some r) : r < 2 ^ k.format.width := by
  unfold floatBits at h
  split at h
  · exact k.format.add_lt h
  · exact k.format.sub_lt h
  · exact k.format.mul_lt h
  · exact k.format.div_lt h
  · cases h

section
variable {P : Program}

theorem run_fop (op : BinOp) (hop : arith op = true) (t : TypeId) (k : FloatKind) (x y : Nat) (w : World) :
    ∃ r n, (binOp op t (.float k x) (.float k y)).run P w = .ok (.float k r) (w.drewN n) ∧ Fl k (fop op k (Flt.cls k x) (Flt.cls k y)) r := by
  rw [fop_cls]
  cases h : floatBits op k x y with
  | some r => exact ⟨r, 0, run_float_arith w op t k x y r h, floatBits_notNaN h, floatBits_lt h⟩
  | none =>
    obtain ⟨h1, h2⟩ := nanBits_cut k x y (w.tape w.drawn (.nanBits k x y))
    have hfo : (Question.nanBits k x y).forced = false := rfl
    refine ⟨_, 1, ?_, ?_, h2⟩
    · unfold floatBits at h
      cases op <;> simp only [arith] at hop <;> first | (cases hop; done) | skip
      all_goals (simp only at h; (simp [binOp, Op.floatArith, h, hfo]; rfl))
    · unfold Flt.cls; rw [if_pos h1]

/-- '+', '-', '*', '/' on two floats. -/
theorem wpList_fop {ops : Array Oper} {Q : Exit → Act → World → Prop} {dst : Option Tmp} {op : BinOp} {ty : TypeId} {x y : Operand} {yt t : TypeId} {pos : String} {after : Array Edge} {rest : List Oper} {a : Act} {w : World} {k : FloatKind} {p q : Nat}
    (hx : a.eval x = .float k p) (hy : a.eval y = .float k q) (hop : arith op = true)
    (h : ∀ r n, Fl k (fop op k (Flt.cls k p) (Flt.cls k q)) r → wpList P ops Q rest (a.put dst (.float k r)) (w.drewN n)) :
    wpList P ops Q (⟨dst, .binOp op ty x y yt, t, pos, after, none⟩ :: rest) a w := by
  refine wpList_plain rfl fun K hK => ?_
  obtain ⟨r, n, hr, hf⟩ := run_fop (P := P) op hop ty k p q w
  have hg : eqGuard op ty x y (.float k p) (.float k q) = pure () := by cases op <;> first | rfl | cases hop
  unfold Oper.wp execOp
  simp only [hx, hy, hg, Sem.run_bind, Sem.run_pure, Result.andThen_ok, hr]
  exact hK _ _ (h r n hf)

/-! ### Conversions -/

/-- f32 to f64 -/
def wid (x : Option Nat) : Option Nat := x.map fun b => FloatKind.f64.encode (FloatKind.f32.decode b)
/-- f64 to f32 -/
def nar (x : Option Nat) : Option Nat := x.map fun b => FloatKind.f32.encode (FloatKind.f64.decode b)

/-- The narrowing is no overflow. -/
def NarOk (x : Option Nat) : Prop := ∀ b, x = some b → ((FloatKind.f64.decode b).isInfinity = true ∨ (FloatKind.f32.decode (FloatKind.f32.encode (FloatKind.f64.decode b))).isInfinity = false)

theorem run_convert (src dst : TypeId) (s k : FloatKind) (hsk : s ≠ k) (hs : (P.underlying src).isSome = true) (hd : P.underlying dst = some (.float k)) (b : Nat) (w : World)
    (hok : ∀ sg m e, s.decode b = .number sg m e → (k.decode (k.encode (.number sg m e))).isInfinity = false) :
    ∃ r n, (convert src dst (.float s b)).run P w = .ok (.float k r) (w.drewN n) ∧ Fl k ((Flt.cls s b).map fun b => k.encode (s.decode b)) r := by
  obtain ⟨u, hs'⟩ := Option.isSome_iff_exists.1 hs
  have red : (convert src dst (.float s b)).run P w = (Conv.floatToFloat s b k).run P w := by
    cases u <;> simp [convert, run_underlying hs', run_underlying hd]
  rw [red]
  unfold Conv.floatToFloat
  rw [if_neg hsk]
  cases hdec : s.decode b with
  | nan sg t =>
    obtain ⟨h1, h2⟩ := nanConv_cut k b (w.tape w.drawn (.nanConv k b))
    have hfo : (Question.nanConv k b).forced = false := rfl
    refine ⟨_, 1, by simp [hfo]; rfl, ?_, h2⟩
    have : s.format.infRung < rung s.format b := by
      have := isNaN_iff s.format (ok s) b
      have e : s.format.read b = .nan sg t := hdec
      rw [e] at this
      simpa [Datum.isNaN] using this.symm
    unfold Flt.cls; rw [if_pos h1, if_pos this]; rfl
  | infinity sg =>
    refine ⟨k.encode (.infinity sg), 0, by simp; rfl, ?_, k.format.write_lt _⟩
    have h0 : ¬ s.format.infRung < rung s.format b := by
      have := isNaN_iff s.format (ok s) b
      have e : s.format.read b = .infinity sg := hdec
      rw [e] at this
      simpa [Datum.isNaN] using this
    have h1 := rung_write k.format (.infinity sg) rfl
    unfold Flt.cls
    rw [if_neg h0, if_neg (by show ¬ _ < rung k.format (k.format.write _); omega)]
    simp [hdec]
  | number sg m e =>
    refine ⟨k.encode (.number sg m e), 0, ?_, ?_, k.format.write_lt _⟩
    · simp [hok sg m e hdec]; rfl
    have h0 : ¬ s.format.infRung < rung s.format b := by
      have := isNaN_iff s.format (ok s) b
      have e' : s.format.read b = .number sg m e := hdec
      rw [e'] at this
      simpa [Datum.isNaN] using this
    have h1 := rung_write k.format (.number sg m e) rfl
    unfold Flt.cls
    rw [if_neg h0, if_neg (by show ¬ _ < rung k.format (k.format.write _); omega)]
    simp [hdec]

/-- 'float64(x)' of a float32. -/
theorem wpList_widen {ops : Array Oper} {Q : Exit → Act → World → Prop} {dst : Option Tmp} {x : Operand} {s d t : TypeId} {pos : String} {after : Array Edge} {rest : List Oper} {a : Act} {w : World} {p : Nat}
    (hx : a.eval x = .float .f32 p) (hs : (P.underlying s).isSome = true) (hd : P.underlying d = some (.float .f64))
    (h : ∀ r n, Fl .f64 (wid (Flt.cls .f32 p)) r → wpList P ops Q rest (a.put dst (.float .f64 r)) (w.drewN n)) :
    wpList P ops Q (⟨dst, .convert s d x, t, pos, after, none⟩ :: rest) a w := by
  refine wpList_plain rfl fun K hK => ?_
  obtain ⟨r, n, hr, hf⟩ := run_convert (P := P) s d .f32 .f64 (by decide) hs hd p w (fun sg m e he => widen_notInf p sg m e he)
  unfold Oper.wp execOp
  simp only [hx, Sem.run_bind, Sem.run_pure, Result.andThen_ok, hr]
  exact hK _ _ (h r n hf)

/-- 'float32(x)' of a float64 that does not overflow. -/
theorem wpList_narrow {ops : Array Oper} {Q : Exit → Act → World → Prop} {dst : Option Tmp} {x : Operand} {s d t : TypeId} {pos : String} {after : Array Edge} {rest : List Oper} {a : Act} {w : World} {p : Nat}
    (hx : a.eval x = .float .f64 p) (hs : (P.underlying s).isSome = true) (hd : P.underlying d = some (.float .f32)) (hok : NarOk (Flt.cls .f64 p))
    (h : ∀ r n, Fl .f32 (nar (Flt.cls .f64 p)) r → wpList P ops Q rest (a.put dst (.float .f32 r)) (w.drewN n)) :
    wpList P ops Q (⟨dst, .convert s d x, t, pos, after, none⟩ :: rest) a w := by
  refine wpList_plain rfl fun K hK => ?_
  obtain ⟨r, n, hr, hf⟩ := run_convert (P := P) s d .f64 .f32 (by decide) hs hd p w (fun sg m e he => by
    have hn : Flt.cls .f64 p = some p := by
      unfold Flt.cls
      rw [if_neg]
      intro hc
      have := read_nan FloatKind.f64.format (ok .f64) p hc
      rw [show FloatKind.f64.format.read p = FloatKind.f64.decode p from rfl, he] at this
      cases this
    rcases hok p hn with h1 | h1
    · rw [he] at h1; cases h1
    · rw [he] at h1; exact h1)
  unfold Oper.wp execOp
  simp only [hx, Sem.run_bind, Sem.run_pure, Result.andThen_ok, hr]
  exact hK _ _ (h r n hf)

/-- a conversion to the same kind -/
@[go_sem] theorem run_convert_float_same (src dst : TypeId) (k : FloatKind) (b : Nat) (w : World) (hs : (P.underlying src).isSome = true) (hd : P.underlying dst = some (.float k)) : (convert src dst (.float k b)).run P w = .ok (.float k b) w :=
  run_convert_float_float w src dst k k b b hs hd (by unfold floatToFloatBits; rw [if_pos rfl])

@[go_sem] theorem unary_neg_float (k : FloatKind) (b : Nat) : Op.unary .neg (.float k b) = pure (.float k (Op.negFloat k b)) := rfl

end
end Go.Proofs.Ytfnndlblbcmnaaa.Flt
