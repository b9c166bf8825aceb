/- The walk of the law of WholeNorm. -/
import Derived.Test.YteblbalciemkiaaNorm
namespace Go.Proofs.Yteblbalciemkiaa
open Go.RowKit Opn

set_option maxHeartbeats 4000000 in
theorem wholeNorm_walk (x y : Int) (s : Value) (n : Nat) (zs : List Nat) (w : World) (_ : (Lit.int .i64 x).wf = true) (_ : (Lit.int .i64 y).wf = true) (hF : FRow w s n zs) :
    Calls Try.prog 10 #[.agg #[.int .i64 x, .int .i64 y, s]] w fun e w' => e = .returned (.bool true) ∧ Below w.heap.size w w' := by
  have HF : Hid (FRow w s n zs) := hF
  have hmx : n ≤ maxLen := hF.2.1
  have HZ : Hid (∀ z ∈ zs, z < 4294967296) := hF.2.2.1
  clear hF
  have hB0 : Below w.heap.size w (w.alloc (.cells #[.int .i64 x, .int .i64 y, s] 40)) := (Below.refl _ _).alloc (Nat.le_refl _) _
  have X0 : Hid (BoxM (w.alloc (.cells #[.int .i64 x, .int .i64 y, s] 40)) w.heap.size x y s) := BoxM.new _ _ _ _ _
  by_cases hn : n ≤ 1048576
  · have hsz : ∀ w', FRow w' s n zs → Calls Try.prog 25 #[.agg #[.int .i64 x, .int .i64 y, s], .int .i64 1048576] w' fun e w'' => e = .returned (.int .i64 (1048576 - n)) ∧ Below w'.heap.size w' w'' := fun w' h => by
      have := szM_any x y s n zs w' h
      rwa [if_pos hn] at this
    have HS : Hid _ := hsz
    clear hsz
    have hd : decide ((1048576 : Int) - (n : Int) < 0) = false := decide_eq_false (by omega)
    go_enter Try.func10, Try.ntmps10
    go_wp2_with fail
    refine (HS.out _ (HF.out.below hB0 (Nat.le_refl _))).mono ?_
    rintro e w1 ⟨rfl, hb1⟩
    have hB1 := hB0.trans (hb1.mono hB0.size)
    have X1 := X0.out.here hb1
    obtain ⟨p10, p11, p12, p13⟩ := X1
    clear hB0 X0 hb1
    go_wp2_with fail
    refine (toM_any x y s n zs _ (HF.out.below hB1 (Nat.le_refl _)) hn).mono ?_
    rintro e w2 ⟨g, rfl, hg, ho, hb2⟩
    have hB2 := hB1.trans (hb2.mono hB1.size)
    obtain ⟨p20, p21, p22, p23⟩ := BoxM.here ⟨p10, p11, p12, p13⟩ hb2
    have hR := ho.row hmx HZ.out
    clear p10 p11 p12 p13 hb2
    go_wp2_with fail
    refine (whole_spec x y _ n zs _ hR hn).mono ?_
    rintro e w3 ⟨r1, rfl, hr1, hb3⟩
    have HR1 : Hid (Flt.Fl .f32 (wholeC x y n zs) r1) := hr1
    clear hr1
    have HWI : Hid (∀ t w, FRow w t n zs → Calls Try.prog 37 #[.agg #[.int .i64 x, .int .i64 y, t]] w fun e w' => ∃ r, e = .returned (.tuple #[.float .f32 r, .bool (normB x y n zs)]) ∧ Flt.Fl .f32 (wholeC x y n zs) r ∧ Below w.heap.size w w') := fun t w h => whole_impl x y t n zs w h hn
    generalize normB x y n zs = b0 at *
    have hB3 := hB2.trans (hb3.mono hB2.size)
    obtain ⟨p30, p31, p32, p33⟩ := BoxM.here ⟨p20, p21, p22, p23⟩ hb3
    clear p20 p21 p22 p23 hb3 hR ho hg
    go_wp2_with fail
    refine (toM_any x y s n zs _ (HF.out.below hB3 (Nat.le_refl _)) hn).mono ?_
    rintro e w4 ⟨g4, rfl, hg4, ho4, hb4⟩
    have hB4 := hB3.trans (hb4.mono hB3.size)
    have P4 := BoxM.here ⟨p30, p31, p32, p33⟩ hb4
    have hR4 := ho4.row hmx HZ.out
    have hA : Below w4.heap.size w4 (w4.alloc (.cells #[.int .i64 x, .int .i64 y, .slice (some ⟨g4, 0, none⟩) n n] 24)) := (Below.refl _ _).alloc (Nat.le_refl _) _
    have P5 := P4.here hA
    have Q5 : BoxM _ _ _ _ _ := BoxM.new w4 x y (.slice (some ⟨g4, 0, none⟩) n n) 24
    have hR5 := hR4.below hA (Nat.le_refl _)
    have hB5 := hB4.trans (hA.mono hB4.size)
    have K5 : Hid _ := And.intro P5 (And.intro Q5 (And.intro hR5 hB5))
    obtain ⟨p40, p41, p42, p43⟩ := P4
    clear p30 p31 p32 p33 hb4 hg4 ho4 hA P5 Q5 hR5 hB5 hR4
    go_wp2_with fail
    obtain ⟨P5, Q5, hR5, hB5⟩ := K5.out
    refine (HWI.out _ _ hR5).mono ?_
    rintro e w6 ⟨r2, rfl, hr2, hb6⟩
    have HR2 : Hid (Flt.Fl .f32 (wholeC x y n zs) r2) := hr2
    clear hr2
    have hB6 := hB5.trans (hb6.mono hB5.size)
    have P6 := P5.here hb6
    have Q6 := Q5.here hb6
    have hR6 := hR5.below hb6 (Nat.le_refl _)
    have hF6 := HF.out.below hB6 (Nat.le_refl _)
    have hlt := P5.2.2.2
    clear K5 P5 Q5 hR5 hB5 hb6 p40 p41 p42 p43 hB1 hB2 hB3 hB4 HS
    generalize w4.heap.size = c at *
    obtain ⟨b, hb⟩ : ∃ b, b = w.heap.size := ⟨_, rfl⟩
    rw [← hb] at P6
    obtain ⟨p60, p61, p62, p63⟩ := P6
    obtain ⟨q60, q61, q62, q63⟩ := Q6
    rw [hb] at p60 p61 p62 p63
    clear hb
    go_wp2_with fail
    refine (sameFloat_any _ _ _ _ (wid_of HR2.out _) (wid_of HR1.out _)).mono ?_
    rintro e w6a ⟨rfl, rfl⟩
    go_wp2_with fail
    have hS6 : SV w c x y s (.slice (some ⟨g4, 0, none⟩) n n) n zs w6 := ⟨p60, p61, p62, p63, q60, q61, q62, q63, hF6, hR6, hB6⟩
    go_region_held3 (fun w' => w'.cell? ⟨w.heap.size, 0, none⟩ = some (.int .i64 x) ∧ w'.cell? ⟨w.heap.size, 1, none⟩ = some (.int .i64 y) ∧ w'.cell? ⟨w.heap.size, 2, none⟩ = some s ∧ w.heap.size < w'.heap.size ∧
        w'.cell? ⟨c, 0, none⟩ = some (.int .i64 x) ∧ w'.cell? ⟨c, 1, none⟩ = some (.int .i64 y) ∧ w'.cell? ⟨c, 2, none⟩ = some (.slice (some ⟨g4, 0, none⟩) n n) ∧ c < w'.heap.size ∧ FRow w' s n zs ∧ FRow w' (.slice (some ⟨g4, 0, none⟩) n n) n zs ∧ Below w.heap.size w w')
      (first | assumption | (exact SV.keep hS6 (Below.drew (below_drewN (Below.refl _ _) _))) | (refine SV.keep ?_ hb'; assumption))
      (first
        | (go_at_call 27; refine (toM_any x y s n zs _ (by go_split_ands; assumption) hn).mono ?_; rintro e w' ⟨g', rfl, hg', ho', hb'⟩; have hr' := ho'.row hmx HZ.out)
        | (go_at_call 13; refine (eqM_any x y _ _ n zs _ (by go_split_ands; assumption) (by assumption) hn).mono ?_; rintro e w' ⟨rfl, hb'⟩))
    go_split_ands
    go_wp2_with fail
    go_ret
    exact ⟨rfl, by assumption⟩
  · have hsz : ∀ w', FRow w' s n zs → Calls Try.prog 25 #[.agg #[.int .i64 x, .int .i64 y, s], .int .i64 1048576] w' fun e w'' => e = .returned (.int .i64 (-1)) ∧ Below w'.heap.size w' w'' := fun w' h => by
      have := szM_any x y s n zs w' h
      rwa [if_neg hn] at this
    have HS : Hid _ := hsz
    clear hsz
    go_enter Try.func10, Try.ntmps10
    go_wp2_with fail
    refine (HS.out _ (HF.out.below hB0 (Nat.le_refl _))).mono ?_
    rintro e w1 ⟨rfl, hb1⟩
    have hB1 := hB0.trans (hb1.mono hB0.size)
    go_wp2_with fail
    go_ret
    exact ⟨rfl, hB1⟩

end Go.Proofs.Yteblbalciemkiaa
