/- Contracts of WholeNorm on both sides. -/
import Derived.Test.YteblbalciemkiaaNormParts
import Derived.Test.YteblbalciemkiaaRoot
import Derived.Test.YteblbalciemkiaaValidLaw
namespace Go.Proofs.Yteblbalciemkiaa
open Go.RowKit Opn

def normC (zs : List Nat) : Option Nat := Flt.nar (Flt.sqF (Flt.wid (dotF zs zs)))
def normB (x y : Int) (n : Nat) (zs : List Nat) : Bool := validB x y n zs && finF (normC zs)

def wholeC (x y : Int) (n : Nat) (zs : List Nat) : Option Nat := if normB x y n zs then normC zs else some 0

theorem norm_root {zs : List Nat} {r : Nat} (h : Flt.Fl .f32 (dotF zs zs) r) : rootF r = normC zs := by
  unfold rootF normC; rw [h.cls]

theorem norm_end {x y : Int} {n : Nat} {zs : List Nat} {r : Nat} (hv : validB x y n zs = true) (h : Flt.Fl .f32 (normC zs) r) : finB r = normB x y n zs ∧ Flt.Fl .f32 (wholeC x y n zs) (if finB r then r else 0) := by
  have hf := fin_Fl h
  have hb : normB x y n zs = finB r := by unfold normB; rw [hv, hf]; rfl
  refine ⟨hb.symm, ?_⟩
  unfold wholeC
  rw [hb]
  cases hr : finB r with
  | true => exact h
  | false => exact ⟨show Flt.cls .f32 0 = some 0 by decide, show (0 : Nat) < 4294967296 by decide⟩

theorem norm_impl (v : Value) (n : Nat) (zs : List Nat) (w : World) (h : FRow w v n zs) (hn : n ≤ 1048576) : Calls Try.prog 69 #[v] w fun e w' => ∃ r, e = .returned (.float .f32 r) ∧ Flt.Fl .f32 (normC zs) r ∧ ∃ m, w' = w.drewN m := by
  have H : Hid (FRow w v n zs) := h
  clear h
  go_enter Try.func69, Try.ntmps69
  go_wp2_with fail
  refine (dot_impl _ _ n zs zs _ H.out H.out hn).mono ?_
  rintro e w1 ⟨r1, rfl, hr1, m1, rfl⟩
  go_wp2_with fail
  refine (root_impl r1 _).mono ?_
  rw [norm_root hr1]
  rintro e w2 ⟨r2, rfl, hr2, m2, rfl⟩
  go_wp2_with fail
  go_ret
  exact ⟨_, rfl, hr2, by first | exact ⟨_, rfl⟩ | exact ⟨_, by rw [World.drewN_drewN]⟩⟩

set_option maxHeartbeats 2000000 in
theorem whole_spec (x y : Int) (s : Value) (n : Nat) (zs : List Nat) (w : World) (h : FRow w s n zs) (hn : n ≤ 1048576) : Calls Try.prog 36 #[.agg #[.int .i64 x, .int .i64 y, s]] w fun e w' => ∃ r, e = .returned (.tuple #[.float .f32 r, .bool (normB x y n zs)]) ∧ Flt.Fl .f32 (wholeC x y n zs) r ∧ Below w.heap.size w w' := by
  have H : Hid (FRow w s n zs) := h
  clear h
  cases hv : validB x y n zs with
  | false =>
    have hb : normB x y n zs = false := by unfold normB; rw [hv]; rfl
    have hw : wholeC x y n zs = some 0 := by unfold wholeC; rw [hb]; rfl
    rw [hb, hw]
    clear hw
    go_enter Try.func36, Try.ntmps36
    go_wp2_with fail
    refine (l02Is_any _ x y s n zs _ (by simp [go_sem]) (by simp [go_sem]) (by simp [go_sem]) (H.out.below (B := w.heap.size) (by go_grown) (Nat.le_refl _)) hn).mono ?_
    rw [hv]
    rintro e w1 ⟨rfl, m, rfl⟩
    go_wp2_with fail
    go_ret2
    exact ⟨_, rfl, ⟨by decide, by decide⟩, below_drewN (by go_grown) _⟩
  | true =>
    go_enter Try.func36, Try.ntmps36
    go_wp2_with fail
    refine (l02Is_any _ x y s n zs _ (by simp [go_sem]) (by simp [go_sem]) (by simp [go_sem]) (H.out.below (B := w.heap.size) (by go_grown) (Nat.le_refl _)) hn).mono ?_
    rw [hv]
    rintro e w1 ⟨rfl, m, rfl⟩
    go_wp2_with fail
    refine (dot2_spec _ _ n zs zs _ (Opn.FRow.drewN (H.out.below (B := w.heap.size) (by go_grown) (Nat.le_refl _)) _) (Opn.FRow.drewN (H.out.below (B := w.heap.size) (by go_grown) (Nat.le_refl _)) _) hn).mono ?_
    rintro e w2 ⟨r1, rfl, hr1, m1, rfl⟩
    go_wp2_with fail
    refine (root_spec r1 _).mono ?_
    rw [norm_root hr1]
    rintro e w3 ⟨r2, rfl, hr2, m2, rfl⟩
    go_wp2_with fail
    refine (num_spec r2 _).mono ?_
    rintro e w4 ⟨rfl, m3, rfl⟩
    obtain ⟨g1, g2⟩ := norm_end hv hr2
    rw [g1] at g2 ⊢
    have HG : Hid (Flt.Fl .f32 (wholeC x y n zs) (if normB x y n zs = true then r2 else 0)) := g2
    clear g1 g2 hr1 hr2 hv
    generalize (if normB x y n zs = true then r2 else 0) = q at *
    go_wp2_with fail
    go_ret2
    exact ⟨_, rfl, HG.out, by repeat (first | exact below_drewN (by go_grown) _ | refine below_drewN ?_ _)⟩

set_option maxHeartbeats 2000000 in
theorem whole_impl (x y : Int) (s : Value) (n : Nat) (zs : List Nat) (w : World) (h : FRow w s n zs) (hn : n ≤ 1048576) : Calls Try.prog 37 #[.agg #[.int .i64 x, .int .i64 y, s]] w fun e w' => ∃ r, e = .returned (.tuple #[.float .f32 r, .bool (normB x y n zs)]) ∧ Flt.Fl .f32 (wholeC x y n zs) r ∧ Below w.heap.size w w' := by
  have H : Hid (FRow w s n zs) := h
  clear h
  have hA : Below w.heap.size w (w.alloc (.cells #[.int .i64 x, .int .i64 y, s] 24)) := (Below.refl _ _).alloc (Nat.le_refl _) _
  have HX : Hid (BoxM (w.alloc (.cells #[.int .i64 x, .int .i64 y, s] 24)) w.heap.size x y s) := BoxM.new _ _ _ _ _
  have HA : Hid _ := hA
  clear hA
  cases hv : validB x y n zs with
  | false =>
    have hb : normB x y n zs = false := by unfold normB; rw [hv]; rfl
    have hw : wholeC x y n zs = some 0 := by unfold wholeC; rw [hb]; rfl
    rw [hb, hw]
    clear hw
    go_enter Try.func37, Try.ntmps37
    go_wp2_with fail
    refine (valid_impl x y s n zs _ (H.out.below HA.out (Nat.le_refl _)) hn).mono ?_
    rw [hv]
    rintro e w1 ⟨rfl, hb1⟩
    have hB1 := HA.out.trans (hb1.mono HA.out.size)
    clear hb1
    go_wp2_with fail
    go_ret2
    exact ⟨_, rfl, ⟨by decide, by decide⟩, hB1⟩
  | true =>
    go_enter Try.func37, Try.ntmps37
    go_wp2_with fail
    refine (valid_impl x y s n zs _ (H.out.below HA.out (Nat.le_refl _)) hn).mono ?_
    rw [hv]
    rintro e w1 ⟨rfl, hb1⟩
    have hB1 := HA.out.trans (hb1.mono HA.out.size)
    obtain ⟨p0, p1, p2, p3⟩ := HX.out.here hb1
    have HB1 : Hid (Below w.heap.size w w1) := hB1
    clear hb1 hB1
    go_wp2_with fail
    refine (norm_impl s n zs _ (H.out.below HB1.out (Nat.le_refl _)) hn).mono ?_
    rintro e w2 ⟨r2, rfl, hr2, m2, rfl⟩
    go_wp2_with fail
    refine (num_impl r2 _).mono ?_
    rintro e w4 ⟨rfl, m3, rfl⟩
    obtain ⟨g1, g2⟩ := norm_end hv hr2
    rw [g1] at g2 ⊢
    have HG : Hid (Flt.Fl .f32 (wholeC x y n zs) (if normB x y n zs = true then r2 else 0)) := g2
    clear g1 g2 hr2 hv
    generalize (if normB x y n zs = true then r2 else 0) = q at *
    go_wp2_with fail
    go_ret2
    exact ⟨_, rfl, HG.out, by repeat (first | exact HB1.out | refine below_drewN ?_ _)⟩

end Go.Proofs.Yteblbalciemkiaa
