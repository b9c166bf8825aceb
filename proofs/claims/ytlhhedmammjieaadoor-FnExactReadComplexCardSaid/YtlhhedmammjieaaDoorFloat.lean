/- The steps of a walk at operations on floats: each gives a word of which the class alone is told (none: a NaN, whose bits the tape chooses). -/
import Derived.WalkKit
import Derived.WalkLawsBesides
import Derived.Deep.Draws
import Derived.Laws.FloatArith
import Derived.Test.YtlhhedmammjieaaDoorFlt
namespace Go.Proofs.YtlhhedmammjieaaDoor.Flt
open Ieee
open Go.RowKit

/-- THE WORD r IS OF THE CLASS v. -/
def Fl (k : FloatKind) (v : Option Nat) (r : Nat) : Prop := cls k r = v ∧ r < 2 ^ k.format.width

/-- A call hands back a float of the class v, and leaves the world as it was but for draws. -/
def FRet (k : FloatKind) (v : Option Nat) (w : World) (e : Ending) (w' : World) : Prop := ∃ r n, e = .returned (.float k r) ∧ Fl k v r ∧ w' = w.drewN n

theorem Fl.cls {k : FloatKind} {v : Option Nat} {r : Nat} (h : Fl k v r) : cls k r = v := h.1
theorem Fl.lt {k : FloatKind} {v : Option Nat} {r : Nat} (h : Fl k v r) : r < 2 ^ k.format.width := h.2
theorem Fl.of {k : FloatKind} {r : Nat} (h : r < 2 ^ k.format.width) : Fl k (Flt.cls k r) r := ⟨rfl, h⟩

theorem nanBits_cut (k : FloatKind) (x y t : Nat) : k.format.infRung < rung k.format ((Question.nanBits k x y).cut t) ∧ (Question.nanBits k x y).cut t < 2 ^ k.format.width := by
  cases k
  · show 2139095040 < ((t % 2) * 2 ^ 31 + 0x7f800000 + 1 + (t / 2) % (2 ^ 23 - 1)) % 2147483648 ∧ ((t % 2) * 2 ^ 31 + 0x7f800000 + 1 + (t / 2) % (2 ^ 23 - 1)) < 4294967296
    have ha : t % 2 < 2 := Nat.mod_lt _ (by decide)
    have hc : (t / 2) % (2 ^ 23 - 1) < 8388607 := Nat.mod_lt _ (by decide)
    generalize t % 2 = a at *
    generalize (t / 2) % (2 ^ 23 - 1) = c at *
    omega
  · show 9218868437227405312 < ((t % 2) * 2 ^ 63 + 0x7ff0000000000000 + 1 + (t / 2) % (2 ^ 52 - 1)) % 9223372036854775808 ∧ ((t % 2) * 2 ^ 63 + 0x7ff0000000000000 + 1 + (t / 2) % (2 ^ 52 - 1)) < 18446744073709551616
    have ha : t % 2 < 2 := Nat.mod_lt _ (by decide)
    have hc : (t / 2) % (2 ^ 52 - 1) < 4503599627370495 := Nat.mod_lt _ (by decide)
    generalize t % 2 = a at *
    generalize (t / 2) % (2 ^ 52 - 1) = c at *
    omega

theorem nanConv_cut (k : FloatKind) (x t : Nat) : k.format.infRung < rung k.format ((Question.nanConv k x).cut t) ∧ (Question.nanConv k x).cut t < 2 ^ k.format.width := by
  cases k
  · show 2139095040 < ((t % 2) * 2 ^ 31 + 0x7f800000 + 1 + (t / 2) % (2 ^ 23 - 1)) % 2147483648 ∧ ((t % 2) * 2 ^ 31 + 0x7f800000 + 1 + (t / 2) % (2 ^ 23 - 1)) < 4294967296
    have ha : t % 2 < 2 := Nat.mod_lt _ (by decide)
    have hc : (t / 2) % (2 ^ 23 - 1) < 8388607 := Nat.mod_lt _ (by decide)
    generalize t % 2 = a at *
    generalize (t / 2) % (2 ^ 23 - 1) = c at *
    omega
  · show 9218868437227405312 < ((t % 2) * 2 ^ 63 + 0x7ff0000000000000 + 1 + (t / 2) % (2 ^ 52 - 1)) % 9223372036854775808 ∧ ((t % 2) * 2 ^ 63 + 0x7ff0000000000000 + 1 + (t / 2) % (2 ^ 52 - 1)) < 18446744073709551616
    have ha : t % 2 < 2 := Nat.mod_lt _ (by decide)
    have hc : (t / 2) % (2 ^ 52 - 1) < 4503599627370495 := Nat.mod_lt _ (by decide)
    generalize t % 2 = a at *
    generalize (t / 2) % (2 ^ 52 - 1) = c at *
    omega

def arith : BinOp → Bool
  | .add | .sub | .mul | .quo => true
  | _ => false

theorem floatBits_lt {op : BinOp} {k : FloatKind} {x y r : Nat} (h : floatBits op k x y = some r) : r < 2 ^ k.format.width := by
  unfold floatBits at h
  split at h
  · exact k.format.add_lt h
  · exact k.format.sub_lt h
  · exact k.format.mul_lt h
  · exact k.format.div_lt h
  · cases h

section
variable {P : Program}

/-! ### Conversions -/

/-- f32 to f64 -/
def wid (x : Option Nat) : Option Nat := x.map fun b => FloatKind.f64.encode (FloatKind.f32.decode b)
/-- f64 to f32 -/
def nar (x : Option Nat) : Option Nat := x.map fun b => FloatKind.f32.encode (FloatKind.f64.decode b)

/-- The narrowing is no overflow. -/
def NarOk (x : Option Nat) : Prop := ∀ b, x = some b → ((FloatKind.f64.decode b).isInfinity = true ∨ (FloatKind.f32.decode (FloatKind.f32.encode (FloatKind.f64.decode b))).isInfinity = false)

/-- a conversion to the same kind -/
@[go_sem] theorem run_convert_float_same (src dst : TypeId) (k : FloatKind) (b : Nat) (w : World) (hs : (P.underlying src).isSome = true) (hd : P.underlying dst = some (.float k)) : (convert src dst (.float k b)).run P w = .ok (.float k b) w :=
  run_convert_float_float w src dst k k b b hs hd (by unfold floatToFloatBits; rw [if_pos rfl])

@[go_sem] theorem unary_neg_float (k : FloatKind) (b : Nat) : Op.unary .neg (.float k b) = pure (.float k (Op.negFloat k b)) := rfl

@[go_sem] theorem run_store_float (w : World) (a : Addr) (m : Mode) (k : FloatKind) (b : Nat) : (store a (.float k b) m).run P w = stored P w a (.float k b) m := run_store P w a _ m rfl
@[go_sem] theorem run_store_complex (w : World) (a : Addr) (m : Mode) (k : FloatKind) (b c : Nat) : (store a (.complex k b c) m).run P w = stored P w a (.complex k b c) m := run_store P w a _ m rfl

/-! ### The same as rules of rewriting: the word and the number of draws as functions of the operands and the world -/

/-- the word that an operation gives in the world w -/
def fB (op : BinOp) (k : FloatKind) (x y : Nat) (w : World) : Nat := (floatBits op k x y).getD ((Question.nanBits k x y).cut (w.tape w.drawn (.nanBits k x y)))
/-- how many draws it takes -/
def fN (op : BinOp) (k : FloatKind) (x y : Nat) : Nat := if (floatBits op k x y).isSome then 0 else 1

theorem fB_Fl (op : BinOp) (k : FloatKind) (x y : Nat) (w : World) : Fl k (fop op k (Flt.cls k x) (Flt.cls k y)) (fB op k x y w) := by
  rw [fop_cls]
  unfold fB
  cases h : floatBits op k x y with
  | some r => exact ⟨floatBits_notNaN h, floatBits_lt h⟩
  | none =>
    obtain ⟨h1, h2⟩ := nanBits_cut k x y (w.tape w.drawn (.nanBits k x y))
    refine ⟨?_, h2⟩
    show Flt.cls k ((Question.nanBits k x y).cut (w.tape w.drawn (.nanBits k x y))) = none
    unfold Flt.cls; rw [if_pos h1]

theorem run_fB (op : BinOp) (hop : arith op = true) (t : TypeId) (k : FloatKind) (x y : Nat) (w : World) : (binOp op t (.float k x) (.float k y)).run P w = .ok (.float k (fB op k x y w)) (w.drewN (fN op k x y)) := by
  cases h : floatBits op k x y with
  | some r =>
    rw [run_float_arith w op t k x y r h]
    unfold fB fN; rw [h]; rfl
  | none =>
    have hfo : (Question.nanBits k x y).forced = false := rfl
    have e1 : fB op k x y w = (Question.nanBits k x y).cut (w.tape w.drawn (.nanBits k x y)) := by unfold fB; rw [h]; rfl
    have e2 : fN op k x y = 1 := by unfold fN; rw [h]; rfl
    rw [e1, e2]
    unfold floatBits at h
    cases op <;> simp only [arith] at hop <;> first | (cases hop; done) | skip
    all_goals (simp only at h; (simp [binOp, Op.floatArith, h, hfo]; rfl))

@[go_sem] theorem run_fadd (t : TypeId) (k : FloatKind) (x y : Nat) (w : World) : (binOp .add t (.float k x) (.float k y)).run P w = .ok (.float k (fB .add k x y w)) (w.drewN (fN .add k x y)) := run_fB .add rfl t k x y w
@[go_sem] theorem run_fsub (t : TypeId) (k : FloatKind) (x y : Nat) (w : World) : (binOp .sub t (.float k x) (.float k y)).run P w = .ok (.float k (fB .sub k x y w)) (w.drewN (fN .sub k x y)) := run_fB .sub rfl t k x y w
@[go_sem] theorem run_fmul (t : TypeId) (k : FloatKind) (x y : Nat) (w : World) : (binOp .mul t (.float k x) (.float k y)).run P w = .ok (.float k (fB .mul k x y w)) (w.drewN (fN .mul k x y)) := run_fB .mul rfl t k x y w
@[go_sem] theorem run_fquo (t : TypeId) (k : FloatKind) (x y : Nat) (w : World) : (binOp .quo t (.float k x) (.float k y)).run P w = .ok (.float k (fB .quo k x y w)) (w.drewN (fN .quo k x y)) := run_fB .quo rfl t k x y w

/-- the word that a conversion to the other kind gives in the world w -/
def cB (s k : FloatKind) (b : Nat) (w : World) : Nat :=
  match s.decode b with
  | .nan _ _ => (Question.nanConv k b).cut (w.tape w.drawn (.nanConv k b))
  | .infinity sg => k.encode (.infinity sg)
  | .number sg m e => if (k.decode (k.encode (.number sg m e))).isInfinity then (Question.floatToFloat b).cut (w.tape w.drawn (.floatToFloat b)) else k.encode (.number sg m e)
def cN (s k : FloatKind) (b : Nat) : Nat :=
  match s.decode b with
  | .nan _ _ => 1
  | .infinity _ => 0
  | .number sg m e => if (k.decode (k.encode (.number sg m e))).isInfinity then 1 else 0

theorem run_cB (src dst : TypeId) (s k : FloatKind) (hsk : s ≠ k) (hs : (P.underlying src).isSome = true) (hd : P.underlying dst = some (.float k)) (b : Nat) (w : World) :
    (convert src dst (.float s b)).run P w = .ok (.float k (cB s k b w)) (w.drewN (cN s k b)) := by
  obtain ⟨u, hs'⟩ := Option.isSome_iff_exists.1 hs
  have red : (convert src dst (.float s b)).run P w = (Conv.floatToFloat s b k).run P w := by
    cases u <;> simp [convert, run_underlying hs', run_underlying hd]
  rw [red]
  unfold Conv.floatToFloat cB cN
  rw [if_neg hsk]
  have hfo : (Question.nanConv k b).forced = false := rfl
  have hfo' : (Question.floatToFloat b).forced = false := rfl
  cases hdec : s.decode b with
  | nan sg t => simp [hfo]; rfl
  | infinity sg => simp; rfl
  | number sg m e =>
    by_cases h : (k.decode (k.encode (.number sg m e))).isInfinity = true
    · simp [h, hfo']; rfl
    · simp [h]; rfl

@[go_sem] theorem run_widen (src dst : TypeId) (b : Nat) (w : World) (hs : (P.underlying src).isSome = true) (hd : P.underlying dst = some (.float .f64)) :
    (convert src dst (.float .f32 b)).run P w = .ok (.float .f64 (cB .f32 .f64 b w)) (w.drewN (cN .f32 .f64 b)) := run_cB src dst .f32 .f64 (by decide) hs hd b w
@[go_sem] theorem run_narrow (src dst : TypeId) (b : Nat) (w : World) (hs : (P.underlying src).isSome = true) (hd : P.underlying dst = some (.float .f32)) :
    (convert src dst (.float .f64 b)).run P w = .ok (.float .f32 (cB .f64 .f32 b w)) (w.drewN (cN .f64 .f32 b)) := run_cB src dst .f64 .f32 (by decide) hs hd b w

theorem cB_Fl (s k : FloatKind) (b : Nat) (w : World) (hok : ∀ sg m e, s.decode b = .number sg m e → (k.decode (k.encode (.number sg m e))).isInfinity = false) :
    Fl k ((Flt.cls s b).map fun b => k.encode (s.decode b)) (cB s k b w) := by
  unfold cB
  cases hdec : s.decode b with
  | nan sg t =>
    obtain ⟨h1, h2⟩ := nanConv_cut k b (w.tape w.drawn (.nanConv k b))
    refine ⟨?_, h2⟩
    have : s.format.infRung < rung s.format b := by
      have := isNaN_iff s.format (ok s) b
      rw [show s.format.read b = .nan sg t from hdec] at this
      simpa [Datum.isNaN] using this.symm
    show Flt.cls k ((Question.nanConv k b).cut (w.tape w.drawn (.nanConv k b))) = _
    unfold Flt.cls; rw [if_pos h1, if_pos this]; rfl
  | infinity sg =>
    refine ⟨?_, k.format.write_lt _⟩
    have h0 : ¬ s.format.infRung < rung s.format b := by
      have := isNaN_iff s.format (ok s) b
      rw [show s.format.read b = .infinity sg from hdec] at this
      simpa [Datum.isNaN] using this
    have h1 := rung_write k.format (.infinity sg) rfl
    show Flt.cls k (k.encode (.infinity sg)) = _
    unfold Flt.cls
    rw [if_neg h0, if_neg (by show ¬ _ < rung k.format (k.format.write _); omega)]
    simp [hdec]
  | number sg m e =>
    have hh := hok sg m e hdec
    have h0 : ¬ s.format.infRung < rung s.format b := by
      have := isNaN_iff s.format (ok s) b
      rw [show s.format.read b = .number sg m e from hdec] at this
      simpa [Datum.isNaN] using this
    have h1 := rung_write k.format (.number sg m e) rfl
    show Fl k _ (if (k.decode (k.encode (.number sg m e))).isInfinity = true then _ else k.encode (.number sg m e))
    rw [hh, if_neg (by simp)]
    refine ⟨?_, k.format.write_lt _⟩
    unfold Flt.cls
    rw [if_neg h0, if_neg (by show ¬ _ < rung k.format (k.format.write _); omega)]
    simp [hdec]

theorem widen_Fl (b : Nat) (w : World) : Fl .f64 (wid (Flt.cls .f32 b)) (cB .f32 .f64 b w) := cB_Fl .f32 .f64 b w fun sg m e he => widen_notInf b sg m e he

theorem narrow_Fl (b : Nat) (w : World) (h : NarOk (Flt.cls .f64 b)) : Fl .f32 (nar (Flt.cls .f64 b)) (cB .f64 .f32 b w) := cB_Fl .f64 .f32 b w fun sg m e he => by
  have hn : Flt.cls .f64 b = some b := by
    unfold Flt.cls
    rw [if_neg]
    intro hc
    have := read_nan FloatKind.f64.format (ok .f64) b hc
    rw [show FloatKind.f64.format.read b = FloatKind.f64.decode b from rfl, he] at this
    cases this
  rcases h b hn with h1 | h1
  · rw [he] at h1; cases h1
  · rw [he] at h1; exact h1

end
end Go.Proofs.YtlhhedmammjieaaDoor.Flt
