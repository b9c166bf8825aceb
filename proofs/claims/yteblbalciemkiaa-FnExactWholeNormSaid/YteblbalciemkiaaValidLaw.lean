/- The walk of the law of ValidMatrix. -/
import Derived.Test.YteblbalciemkiaaValid
import Derived.Deep.RegionHeld3
namespace Go.Proofs.Yteblbalciemkiaa
open Go.RowKit Opn

/-- three cells of a matrix in a box of its own -/
def BoxM (W : World) (b : Nat) (x y : Int) (s : Value) : Prop := W.cell? ⟨b, 0, none⟩ = some (.int .i64 x) ∧ W.cell? ⟨b, 1, none⟩ = some (.int .i64 y) ∧ W.cell? ⟨b, 2, none⟩ = some s ∧ b < W.heap.size
theorem BoxM.below {W W' : World} {b B : Nat} {x y : Int} {s : Value} (h : BoxM W b x y s) (hb : Below B W W') (hB : b < B) : BoxM W' b x y s := by
  obtain ⟨h0, h1, h2, h3⟩ := h
  refine ⟨?_, ?_, ?_, Nat.lt_of_lt_of_le h3 hb.size⟩
  · rw [hb.cell (p := ⟨b, 0, none⟩) hB]; exact h0
  · rw [hb.cell (p := ⟨b, 1, none⟩) hB]; exact h1
  · rw [hb.cell (p := ⟨b, 2, none⟩) hB]; exact h2
theorem BoxM.here {W : World} {b : Nat} {x y : Int} {s : Value} (h : BoxM W b x y s) {W' : World} (hb : Below W.heap.size W W') : BoxM W' b x y s := h.below hb h.2.2.2
theorem BoxM.new (W : World) (x y : Int) (s : Value) (t : TypeId) : BoxM (W.alloc (.cells #[.int .i64 x, .int .i64 y, s] t)) W.heap.size x y s := by
  refine ⟨by simp [go_sem], by simp [go_sem], by simp [go_sem], by simp⟩

/-- what holds of the world at the end of a law on one matrix: the parameter in its box, the copy in its, both rows -/
abbrev SV (w : World) (c : Nat) (x y : Int) (s t : Value) (n : Nat) (zs : List Nat) (w' : World) : Prop :=
  w'.cell? ⟨w.heap.size, 0, none⟩ = some (.int .i64 x) ∧ w'.cell? ⟨w.heap.size, 1, none⟩ = some (.int .i64 y) ∧ w'.cell? ⟨w.heap.size, 2, none⟩ = some s ∧ w.heap.size < w'.heap.size ∧
  w'.cell? ⟨c, 0, none⟩ = some (.int .i64 x) ∧ w'.cell? ⟨c, 1, none⟩ = some (.int .i64 y) ∧ w'.cell? ⟨c, 2, none⟩ = some t ∧ c < w'.heap.size ∧ FRow w' s n zs ∧ FRow w' t n zs ∧ Below w.heap.size w w'
theorem SV.keep {w : World} {c : Nat} {x y : Int} {s t : Value} {n : Nat} {zs : List Nat} {w1 w2 : World} (h : SV w c x y s t n zs w1) (hb : Below w1.heap.size w1 w2) : SV w c x y s t n zs w2 := by
  obtain ⟨p0, p1, p2, p3, q0, q1, q2, q3, f, g, b⟩ := h
  obtain ⟨P0, P1, P2, P3⟩ := BoxM.here ⟨p0, p1, p2, p3⟩ hb
  obtain ⟨Q0, Q1, Q2, Q3⟩ := BoxM.here ⟨q0, q1, q2, q3⟩ hb
  exact ⟨P0, P1, P2, P3, Q0, Q1, Q2, Q3, f.below hb (Nat.le_refl _), g.below hb (Nat.le_refl _), b.trans (hb.mono b.size)⟩

set_option maxHeartbeats 4000000 in
theorem validMatrix_walk (x y : Int) (s : Value) (n : Nat) (zs : List Nat) (w : World) (_ : (Lit.int .i64 x).wf = true) (_ : (Lit.int .i64 y).wf = true) (hF : FRow w s n zs) :
    Calls Try.prog 8 #[.agg #[.int .i64 x, .int .i64 y, s]] w fun e w' => e = .returned (.bool true) ∧ Below w.heap.size w w' := by
  have HF : Hid (FRow w s n zs) := hF
  have hmx : n ≤ maxLen := hF.2.1
  have HZ : Hid (∀ z ∈ zs, z < 4294967296) := hF.2.2.1
  clear hF
  have hB0 : Below w.heap.size w (w.alloc (.cells #[.int .i64 x, .int .i64 y, s] 40)) := (Below.refl _ _).alloc (Nat.le_refl _) _
  have X0 : Hid (BoxM (w.alloc (.cells #[.int .i64 x, .int .i64 y, s] 40)) w.heap.size x y s) := BoxM.new _ _ _ _ _
  by_cases hn : n ≤ 1048576
  · have hsz : ∀ w', FRow w' s n zs → Calls Try.prog 25 #[.agg #[.int .i64 x, .int .i64 y, s], .int .i64 1048576] w' fun e w'' => e = .returned (.int .i64 (1048576 - n)) ∧ Below w'.heap.size w' w'' := fun w' h => by
      have := szM_any x y s n zs w' h
      rwa [if_pos hn] at this
    have HS : Hid _ := hsz
    clear hsz
    have hd : decide ((1048576 : Int) - (n : Int) < 0) = false := decide_eq_false (by omega)
    go_enter Try.func8, Try.ntmps8
    go_wp2_with fail
    refine (HS.out _ (HF.out.below hB0 (Nat.le_refl _))).mono ?_
    rintro e w1 ⟨rfl, hb1⟩
    have hB1 := hB0.trans (hb1.mono hB0.size)
    have X1 := X0.out.here hb1
    obtain ⟨p10, p11, p12, p13⟩ := X1
    clear hB0 X0 hb1
    go_wp2_with fail
    refine (toM_any x y s n zs _ (HF.out.below hB1 (Nat.le_refl _)) hn).mono ?_
    rintro e w2 ⟨g, rfl, hg, ho, hb2⟩
    have hB2 := hB1.trans (hb2.mono hB1.size)
    obtain ⟨p20, p21, p22, p23⟩ := BoxM.here ⟨p10, p11, p12, p13⟩ hb2
    have hR := ho.row hmx HZ.out
    clear p10 p11 p12 p13 hb2
    go_wp2_with fail
    refine (valid_spec x y _ n zs _ hR hn).mono ?_
    rintro e w3 ⟨rfl, hb3⟩
    have hB3 := hB2.trans (hb3.mono hB2.size)
    obtain ⟨p30, p31, p32, p33⟩ := BoxM.here ⟨p20, p21, p22, p23⟩ hb3
    clear p20 p21 p22 p23 hb3 hR ho hg
    go_wp2_with fail
    refine (toM_any x y s n zs _ (HF.out.below hB3 (Nat.le_refl _)) hn).mono ?_
    rintro e w4 ⟨g4, rfl, hg4, ho4, hb4⟩
    have hB4 := hB3.trans (hb4.mono hB3.size)
    have P4 := BoxM.here ⟨p30, p31, p32, p33⟩ hb4
    have hR4 := ho4.row hmx HZ.out
    have hA : Below w4.heap.size w4 (w4.alloc (.cells #[.int .i64 x, .int .i64 y, .slice (some ⟨g4, 0, none⟩) n n] 24)) := (Below.refl _ _).alloc (Nat.le_refl _) _
    have P5 := P4.here hA
    have Q5 : BoxM _ _ _ _ _ := BoxM.new w4 x y (.slice (some ⟨g4, 0, none⟩) n n) 24
    have hR5 := hR4.below hA (Nat.le_refl _)
    have hB5 := hB4.trans (hA.mono hB4.size)
    have K5 : Hid _ := And.intro P5 (And.intro Q5 (And.intro hR5 hB5))
    obtain ⟨p40, p41, p42, p43⟩ := P4
    clear p30 p31 p32 p33 hb4 hg4 ho4 hA P5 Q5 hR5 hB5 hR4
    go_wp2_with fail
    obtain ⟨P5, Q5, hR5, hB5⟩ := K5.out
    refine (valid_impl x y _ n zs _ hR5 hn).mono ?_
    rintro e w6 ⟨rfl, hb6⟩
    have hB6 := hB5.trans (hb6.mono hB5.size)
    have P6 := P5.here hb6
    have Q6 := Q5.here hb6
    have hR6 := hR5.below hb6 (Nat.le_refl _)
    have hF6 := HF.out.below hB6 (Nat.le_refl _)
    have hlt := P5.2.2.2
    clear K5 P5 Q5 hR5 hB5 hb6 p40 p41 p42 p43 hB1 hB2 hB3 hB4 HS
    generalize w4.heap.size = c at *
    obtain ⟨b, hb⟩ : ∃ b, b = w.heap.size := ⟨_, rfl⟩
    rw [← hb] at P6
    obtain ⟨p60, p61, p62, p63⟩ := P6
    obtain ⟨q60, q61, q62, q63⟩ := Q6
    rw [hb] at p60 p61 p62 p63
    clear hb
    go_wp2_with fail
    have hS6 : SV w c x y s (.slice (some ⟨g4, 0, none⟩) n n) n zs w6 := ⟨p60, p61, p62, p63, q60, q61, q62, q63, hF6, hR6, hB6⟩
    go_region_held3 (fun w' => w'.cell? ⟨w.heap.size, 0, none⟩ = some (.int .i64 x) ∧ w'.cell? ⟨w.heap.size, 1, none⟩ = some (.int .i64 y) ∧ w'.cell? ⟨w.heap.size, 2, none⟩ = some s ∧ w.heap.size < w'.heap.size ∧
        w'.cell? ⟨c, 0, none⟩ = some (.int .i64 x) ∧ w'.cell? ⟨c, 1, none⟩ = some (.int .i64 y) ∧ w'.cell? ⟨c, 2, none⟩ = some (.slice (some ⟨g4, 0, none⟩) n n) ∧ c < w'.heap.size ∧ FRow w' s n zs ∧ FRow w' (.slice (some ⟨g4, 0, none⟩) n n) n zs ∧ Below w.heap.size w w')
      (first | assumption | (exact SV.keep hS6 (Below.drew (Below.refl _ _))) | (refine SV.keep ?_ hb'; assumption))
      (first
        | (go_at_call 27; refine (toM_any x y s n zs _ (by go_split_ands; assumption) hn).mono ?_; rintro e w' ⟨g', rfl, hg', ho', hb'⟩; have hr' := ho'.row hmx HZ.out)
        | (go_at_call 13; refine (eqM_any x y _ _ n zs _ (by go_split_ands; assumption) (by assumption) hn).mono ?_; rintro e w' ⟨rfl, hb'⟩))
    go_split_ands
    go_wp2_with fail
    go_ret
    exact ⟨rfl, by assumption⟩
  · have hsz : ∀ w', FRow w' s n zs → Calls Try.prog 25 #[.agg #[.int .i64 x, .int .i64 y, s], .int .i64 1048576] w' fun e w'' => e = .returned (.int .i64 (-1)) ∧ Below w'.heap.size w' w'' := fun w' h => by
      have := szM_any x y s n zs w' h
      rwa [if_neg hn] at this
    have HS : Hid _ := hsz
    clear hsz
    go_enter Try.func8, Try.ntmps8
    go_wp2_with fail
    refine (HS.out _ (HF.out.below hB0 (Nat.le_refl _))).mono ?_
    rintro e w1 ⟨rfl, hb1⟩
    have hB1 := hB0.trans (hb1.mono hB0.size)
    go_wp2_with fail
    go_ret
    exact ⟨rfl, hB1⟩

end Go.Proofs.Yteblbalciemkiaa
