/- The walk of the law of SameFactor. -/
import Derived.Test.YteblbalciemkiaaSameFactor
import Derived.Deep.RegionHeld3
namespace Go.Proofs.Yteblbalciemkiaa
open Go.RowKit Opn
set_option linter.unusedVariables false

/-- four cells of a factor in a box of its own -/
def BoxF (W : World) (b : Nat) (x y : Int) (s t : Value) : Prop := W.cell? ⟨b, 0, none⟩ = some (.int .i64 x) ∧ W.cell? ⟨b, 1, none⟩ = some (.int .i64 y) ∧ W.cell? ⟨b, 2, none⟩ = some s ∧ W.cell? ⟨b, 3, none⟩ = some t ∧ b < W.heap.size
theorem BoxF.here {W : World} {b : Nat} {x y : Int} {s t : Value} (h : BoxF W b x y s t) {W' : World} (hb : Below W.heap.size W W') : BoxF W' b x y s t := by
  obtain ⟨h0, h1, h2, h3, h4⟩ := h
  refine ⟨?_, ?_, ?_, ?_, Nat.lt_of_lt_of_le h4 hb.size⟩
  · rw [hb.cell (p := ⟨b, 0, none⟩) h4]; exact h0
  · rw [hb.cell (p := ⟨b, 1, none⟩) h4]; exact h1
  · rw [hb.cell (p := ⟨b, 2, none⟩) h4]; exact h2
  · rw [hb.cell (p := ⟨b, 3, none⟩) h4]; exact h3
theorem BoxF.new (W : World) (x y : Int) (s t : Value) (ty : TypeId) : BoxF (W.alloc (.cells #[.int .i64 x, .int .i64 y, s, t] ty)) W.heap.size x y s t := by
  refine ⟨by simp [go_sem], by simp [go_sem], by simp [go_sem], by simp [go_sem], by simp⟩

abbrev CA (w : World) (x y x' y' : Int) (s t : Value) (s' t' : Value) (n m n' m' : Nat) (zs : List Nat) (ys : List Int) (zs' : List Nat) (ys' : List Int) (w' : World) : Prop :=
  w'.cell? ⟨w.heap.size, 0, none⟩ = some (.int .i64 x) ∧ w'.cell? ⟨w.heap.size, 1, none⟩ = some (.int .i64 y) ∧ w'.cell? ⟨w.heap.size, 2, none⟩ = some s ∧ w'.cell? ⟨w.heap.size, 3, none⟩ = some t ∧ w.heap.size < w'.heap.size ∧ w'.cell? ⟨(w.heap.size + 1), 0, none⟩ = some (.int .i64 x') ∧ w'.cell? ⟨(w.heap.size + 1), 1, none⟩ = some (.int .i64 y') ∧ w'.cell? ⟨(w.heap.size + 1), 2, none⟩ = some s' ∧ w'.cell? ⟨(w.heap.size + 1), 3, none⟩ = some t' ∧ (w.heap.size + 1) < w'.heap.size ∧ FRow w' s n zs ∧ IRow .i64 w' t m ys ∧ FRow w' s' n' zs' ∧ IRow .i64 w' t' m' ys' ∧ Below w.heap.size w w'
theorem CA.keep {w : World} {x y x' y' : Int} {s t s' t' : Value} {n m n' m' : Nat} {zs : List Nat} {ys : List Int} {zs' : List Nat} {ys' : List Int} {w1 w2 : World} (h : CA w x y x' y' s t s' t' n m n' m' zs ys zs' ys' w1) (hb : Below w1.heap.size w1 w2) : CA w x y x' y' s t s' t' n m n' m' zs ys zs' ys' w2 := by
  obtain ⟨p0, p1, p2, p3, p4, q0, q1, q2, q3, q4, f1, f2, f3, f4, b⟩ := h
  obtain ⟨P0, P1, P2, P3, P4⟩ := BoxF.here ⟨p0, p1, p2, p3, p4⟩ hb
  obtain ⟨Q0, Q1, Q2, Q3, Q4⟩ := BoxF.here ⟨q0, q1, q2, q3, q4⟩ hb
  exact ⟨P0, P1, P2, P3, P4, Q0, Q1, Q2, Q3, Q4, f1.below hb (Nat.le_refl _), f2.below hb (Nat.le_refl _), f3.below hb (Nat.le_refl _), f4.below hb (Nat.le_refl _), b.trans (hb.mono b.size)⟩

abbrev CB (w : World) (c c' : Nat) (u v u' v' : Value) (x y x' y' : Int) (s t : Value) (s' t' : Value) (n m n' m' : Nat) (zs : List Nat) (ys : List Int) (zs' : List Nat) (ys' : List Int) (w' : World) : Prop :=
  w'.cell? ⟨w.heap.size, 0, none⟩ = some (.int .i64 x) ∧ w'.cell? ⟨w.heap.size, 1, none⟩ = some (.int .i64 y) ∧ w'.cell? ⟨w.heap.size, 2, none⟩ = some s ∧ w'.cell? ⟨w.heap.size, 3, none⟩ = some t ∧ w.heap.size < w'.heap.size ∧ w'.cell? ⟨(w.heap.size + 1), 0, none⟩ = some (.int .i64 x') ∧ w'.cell? ⟨(w.heap.size + 1), 1, none⟩ = some (.int .i64 y') ∧ w'.cell? ⟨(w.heap.size + 1), 2, none⟩ = some s' ∧ w'.cell? ⟨(w.heap.size + 1), 3, none⟩ = some t' ∧ (w.heap.size + 1) < w'.heap.size ∧ w'.cell? ⟨c, 0, none⟩ = some (.int .i64 x) ∧ w'.cell? ⟨c, 1, none⟩ = some (.int .i64 y) ∧ w'.cell? ⟨c, 2, none⟩ = some u ∧ w'.cell? ⟨c, 3, none⟩ = some v ∧ c < w'.heap.size ∧ w'.cell? ⟨c', 0, none⟩ = some (.int .i64 x') ∧ w'.cell? ⟨c', 1, none⟩ = some (.int .i64 y') ∧ w'.cell? ⟨c', 2, none⟩ = some u' ∧ w'.cell? ⟨c', 3, none⟩ = some v' ∧ c' < w'.heap.size ∧ FRow w' u n zs ∧ IRow .i64 w' v m ys ∧ FRow w' u' n' zs' ∧ IRow .i64 w' v' m' ys' ∧ FRow w' s n zs ∧ IRow .i64 w' t m ys ∧ FRow w' s' n' zs' ∧ IRow .i64 w' t' m' ys' ∧ Below w.heap.size w w'
theorem CB.keep {w : World} {c c' : Nat} {u v u' v' : Value} {x y x' y' : Int} {s t s' t' : Value} {n m n' m' : Nat} {zs : List Nat} {ys : List Int} {zs' : List Nat} {ys' : List Int} {w1 w2 : World} (h : CB w c c' u v u' v' x y x' y' s t s' t' n m n' m' zs ys zs' ys' w1) (hb : Below w1.heap.size w1 w2) : CB w c c' u v u' v' x y x' y' s t s' t' n m n' m' zs ys zs' ys' w2 := by
  obtain ⟨p0, p1, p2, p3, p4, q0, q1, q2, q3, q4, r0, r1, r2, r3, r4, u0, u1, u2, u3, u4, e1, e2, e3, e4, f1, f2, f3, f4, b⟩ := h
  obtain ⟨P0, P1, P2, P3, P4⟩ := BoxF.here ⟨p0, p1, p2, p3, p4⟩ hb
  obtain ⟨Q0, Q1, Q2, Q3, Q4⟩ := BoxF.here ⟨q0, q1, q2, q3, q4⟩ hb
  obtain ⟨R0, R1, R2, R3, R4⟩ := BoxF.here ⟨r0, r1, r2, r3, r4⟩ hb
  obtain ⟨U0, U1, U2, U3, U4⟩ := BoxF.here ⟨u0, u1, u2, u3, u4⟩ hb
  exact ⟨P0, P1, P2, P3, P4, Q0, Q1, Q2, Q3, Q4, R0, R1, R2, R3, R4, U0, U1, U2, U3, U4, e1.below hb (Nat.le_refl _), e2.below hb (Nat.le_refl _), e3.below hb (Nat.le_refl _), e4.below hb (Nat.le_refl _), f1.below hb (Nat.le_refl _), f2.below hb (Nat.le_refl _), f3.below hb (Nat.le_refl _), f4.below hb (Nat.le_refl _), b.trans (hb.mono b.size)⟩

set_option maxHeartbeats 8000000 in
theorem sameFactor_walk (x y : Int) (s : Value) (n : Nat) (zs : List Nat) (t : Value) (m : Nat) (ys : List Int) (x' y' : Int) (s' : Value) (n' : Nat) (zs' : List Nat) (t' : Value) (m' : Nat) (ys' : List Int) (w : World) (hF : FRow w s n zs) (hG : IRow .i64 w t m ys) (hF' : FRow w s' n' zs') (hG' : IRow .i64 w t' m' ys') :
    Calls Try.prog 9 #[.agg #[.int .i64 x, .int .i64 y, s, t], .agg #[.int .i64 x', .int .i64 y', s', t']] w fun e w' => e = .returned (.bool true) ∧ Below w.heap.size w w' := by
  have x1 : n ≤ maxLen := hF.2.1
  have x2 : m ≤ maxLen := hG.2.1
  have x3 : n' ≤ maxLen := hF'.2.1
  have x4 : m' ≤ maxLen := hG'.2.1
  have Z1 : Hid (∀ z ∈ zs, z < 4294967296) := hF.2.2.1
  have Z2 : Hid (∀ z ∈ ys, (Lit.int .i64 z).wf = true) := hG.2.2.1
  have Z3 : Hid (∀ z ∈ zs', z < 4294967296) := hF'.2.2.1
  have Z4 : Hid (∀ z ∈ ys', (Lit.int .i64 z).wf = true) := hG'.2.2.1
  have hA : Below w.heap.size w (w.alloc (.cells #[.int .i64 x, .int .i64 y, s, t] 48)) := (Below.refl _ _).alloc (Nat.le_refl _) _
  have hA2 : Below (w.alloc (.cells #[.int .i64 x, .int .i64 y, s, t] 48)).heap.size (w.alloc (.cells #[.int .i64 x, .int .i64 y, s, t] 48)) ((w.alloc (.cells #[.int .i64 x, .int .i64 y, s, t] 48)).alloc (.cells #[.int .i64 x', .int .i64 y', s', t'] 48)) := (Below.refl _ _).alloc (Nat.le_refl _) _
  have hB0 := hA.trans (hA2.mono hA.size)
  have Xa := (BoxF.new w x y s t 48).here hA2
  have Xb := BoxF.new (w.alloc (.cells #[.int .i64 x, .int .i64 y, s, t] 48)) x' y' s' t' 48
  rw [show (w.alloc (.cells #[.int .i64 x, .int .i64 y, s, t] 48)).heap.size = w.heap.size + 1 by simp] at Xb
  have K0 : Hid (CA w x y x' y' s t s' t' n m n' m' zs ys zs' ys' ((w.alloc (.cells #[.int .i64 x, .int .i64 y, s, t] 48)).alloc (.cells #[.int .i64 x', .int .i64 y', s', t'] 48))) :=
    ⟨Xa.1, Xa.2.1, Xa.2.2.1, Xa.2.2.2.1, Xa.2.2.2.2, Xb.1, Xb.2.1, Xb.2.2.1, Xb.2.2.2.1, Xb.2.2.2.2, hF.below hB0 (Nat.le_refl _), hG.below hB0 (Nat.le_refl _), hF'.below hB0 (Nat.le_refl _), hG'.below hB0 (Nat.le_refl _), hB0⟩
  clear hF hG hF' hG' hA hA2 hB0 Xa Xb
  by_cases hn : n + m ≤ 1048576
  · have HS : Hid (∀ w', FRow w' s n zs → IRow .i64 w' t m ys → Calls Try.prog 31 #[.agg #[.int .i64 x, .int .i64 y, s, t], .int .i64 1048576] w' fun e w'' => e = .returned (.int .i64 (1048576 - n - m)) ∧ Below w'.heap.size w' w'') := fun w' h h' => by
      have := szFa_gen 1048576 (by decide) (by decide) x y s t n m zs ys w' h h'
      rwa [if_pos (by omega)] at this
    have hd : decide ((1048576 : Int) - (n : Int) - (m : Int) < 0) = false := decide_eq_false (by omega)
    by_cases hn2 : n + m + n' + m' ≤ 1048576
    · have HS2 : Hid (∀ w', FRow w' s' n' zs' → IRow .i64 w' t' m' ys' → Calls Try.prog 31 #[.agg #[.int .i64 x', .int .i64 y', s', t'], .int .i64 (1048576 - n - m)] w' fun e w'' => e = .returned (.int .i64 (1048576 - n - m - n' - m')) ∧ Below w'.heap.size w' w'') := fun w' h h' => by
        have := szFa_gen (1048576 - n - m) (by omega) (by omega) x' y' s' t' n' m' zs' ys' w' h h'
        rwa [if_pos (by omega)] at this
      have hd2 : decide ((1048576 : Int) - (n : Int) - (m : Int) - (n' : Int) - (m' : Int) < 0) = false := decide_eq_false (by omega)
      have l1 : n ≤ 1048576 := by omega
      have l2 : m ≤ 1048576 := by omega
      have l3 : n' ≤ 1048576 := by omega
      have l4 : m' ≤ 1048576 := by omega
      go_enter Try.func9, Try.ntmps9
      go_wp2_with fail
      refine (HS.out _ K0.out.2.2.2.2.2.2.2.2.2.2.1 K0.out.2.2.2.2.2.2.2.2.2.2.2.1).mono ?_
      rintro e w1 ⟨rfl, hb1⟩
      have K1 : CA w x y x' y' s t s' t' n m n' m' zs ys zs' ys' w1 := CA.keep K0.out hb1
      have HK1 : Hid (CA w x y x' y' s t s' t' n m n' m' zs ys zs' ys' w1) := K1
      obtain ⟨p10, p11, p12, p13, p14, q10, q11, q12, q13, q14, a1, a2, a3, a4, hB1⟩ := K1
      clear K0 hb1
      go_wp2_with fail
      refine (HS2.out _ a3 a4).mono ?_
      rintro e w2 ⟨rfl, hb2⟩
      have K2 : CA w x y x' y' s t s' t' n m n' m' zs ys zs' ys' w2 := CA.keep HK1.out hb2
      have hS2 : Hid (CA w x y x' y' s t s' t' n m n' m' zs ys zs' ys' w2) := K2
      obtain ⟨p20, p21, p22, p23, p24, q20, q21, q22, q23, q24, b1, b2, b3, b4, hB2⟩ := K2
      clear p10 p11 p12 p13 p14 q10 q11 q12 q13 q14 a1 a2 a3 a4 hB1 HK1 hb2 HS HS2
      go_wp2_with fail
      go_region_held3 (fun w' => w'.cell? ⟨w.heap.size, 0, none⟩ = some (.int .i64 x) ∧ w'.cell? ⟨w.heap.size, 1, none⟩ = some (.int .i64 y) ∧ w'.cell? ⟨w.heap.size, 2, none⟩ = some s ∧ w'.cell? ⟨w.heap.size, 3, none⟩ = some t ∧ w.heap.size < w'.heap.size ∧ w'.cell? ⟨(w.heap.size + 1), 0, none⟩ = some (.int .i64 x') ∧ w'.cell? ⟨(w.heap.size + 1), 1, none⟩ = some (.int .i64 y') ∧ w'.cell? ⟨(w.heap.size + 1), 2, none⟩ = some s' ∧ w'.cell? ⟨(w.heap.size + 1), 3, none⟩ = some t' ∧ (w.heap.size + 1) < w'.heap.size ∧ FRow w' s n zs ∧ IRow .i64 w' t m ys ∧ FRow w' s' n' zs' ∧ IRow .i64 w' t' m' ys' ∧ Below w.heap.size w w')
        (first | assumption | (exact CA.keep hS2.out (Below.drew (Below.refl _ _))) | (refine CA.keep ?_ hb5; assumption) | (refine CA.keep ?_ hb4; assumption) | (refine CA.keep ?_ hb3; assumption))
        (first
          | (go_at_call 33; with_reducible refine (toFa_any x y s t n m zs ys _ (by go_split_ands; assumption) (by go_split_ands; assumption) l1 l2).mono ?_; rintro e w3 ⟨g3, h3, rfl, ho3, oh3, hb3⟩; have hr3 := ho3.row x1 Z1.out; have rh3 := oh3.row x2 Z2.out)
          | (go_at_call 33; with_reducible refine (toFa_any x' y' s' t' n' m' zs' ys' _ (by go_split_ands; assumption) (by go_split_ands; assumption) l3 l4).mono ?_; rintro e w4 ⟨g4, h4, rfl, ho4, oh4, hb4⟩; have hr4 := ho4.row x3 Z3.out; have rh4 := oh4.row x4 Z4.out; have hr34 := hr3.below hb4 (Nat.le_refl _); have rh34 := rh3.below hb4 (Nat.le_refl _))
          | (go_at_call 32; refine (sameFa_spec x y x' y' _ _ _ _ n m n' m' zs ys zs' ys' _ hr34 rh34 hr4 rh4 l1 l2 l3 l4).mono ?_; rintro e w5 ⟨rfl, hb5⟩))
      have hS5 : Hid (CA w x y x' y' s t s' t' n m n' m' zs ys zs' ys' w5) := by show CA w x y x' y' s t s' t' n m n' m' zs ys zs' ys' w5; assumption
      obtain ⟨p50, p51, p52, p53, p54, q50, q51, q52, q53, q54, c1, c2, c3, c4, hB5⟩ := hS5.out
      clear hS2 p20 p21 p22 p23 p24 q20 q21 q22 q23 q24 b1 b2 b3 b4 hB2 hr3 hr4 hr34 rh3 rh4 rh34 ho3 oh3 ho4 oh4 hb3 hb4 hb5
      go_wp2_with fail
      refine (toFa_any x y s t n m zs ys _ c1 c2 l1 l2).mono ?_
      rintro e w6 ⟨g6, h6, rfl, ho6, oh6, hb6⟩
      have K6 : CA w x y x' y' s t s' t' n m n' m' zs ys zs' ys' w6 := CA.keep hS5.out hb6
      have hr6 := ho6.row x1 Z1.out
      have rh6 := oh6.row x2 Z2.out
      have hA6 : Below w6.heap.size w6 (w6.alloc (.cells #[.int .i64 x, .int .i64 y, .slice (some ⟨g6, 0, none⟩) n n, .slice (some ⟨h6, 0, none⟩) m m] 52)) := (Below.refl _ _).alloc (Nat.le_refl _) _
      have HK6 : Hid (CA w x y x' y' s t s' t' n m n' m' zs ys zs' ys' (w6.alloc (.cells #[.int .i64 x, .int .i64 y, .slice (some ⟨g6, 0, none⟩) n n, .slice (some ⟨h6, 0, none⟩) m m] 52))) := CA.keep K6 hA6
      have HC6 : Hid (BoxF (w6.alloc (.cells #[.int .i64 x, .int .i64 y, .slice (some ⟨g6, 0, none⟩) n n, .slice (some ⟨h6, 0, none⟩) m m] 52)) w6.heap.size x y (.slice (some ⟨g6, 0, none⟩) n n) (.slice (some ⟨h6, 0, none⟩) m m)) := BoxF.new _ _ _ _ _ _
      have HR6 : Hid (FRow (w6.alloc (.cells #[.int .i64 x, .int .i64 y, .slice (some ⟨g6, 0, none⟩) n n, .slice (some ⟨h6, 0, none⟩) m m] 52)) (.slice (some ⟨g6, 0, none⟩) n n) n zs ∧ IRow .i64 (w6.alloc (.cells #[.int .i64 x, .int .i64 y, .slice (some ⟨g6, 0, none⟩) n n, .slice (some ⟨h6, 0, none⟩) m m] 52)) (.slice (some ⟨h6, 0, none⟩) m m) m ys) := ⟨hr6.below hA6 (Nat.le_refl _), rh6.below hA6 (Nat.le_refl _)⟩
      obtain ⟨p60, p61, p62, p63, p64, q60, q61, q62, q63, q64, d1, d2, d3, d4, hB6⟩ := K6
      obtain ⟨_, _, _, _, _, q70, q71, q72, q73, q74, _, _, _, _, _⟩ := HK6.out
      clear p50 p51 p52 p53 p54 q50 q51 q52 q53 q54 c1 c2 c3 c4 hB5 hb6 hr6 rh6 hA6 ho6 oh6 hS5
      go_wp2_with fail
      refine (toFa_any x' y' s' t' n' m' zs' ys' _ HK6.out.2.2.2.2.2.2.2.2.2.2.2.2.1 HK6.out.2.2.2.2.2.2.2.2.2.2.2.2.2.1 l3 l4).mono ?_
      rintro e w7 ⟨g7, h7, rfl, ho7, oh7, hb7⟩
      have K7 : CA w x y x' y' s t s' t' n m n' m' zs ys zs' ys' w7 := CA.keep HK6.out hb7
      have C7 := BoxF.here HC6.out hb7
      have hr67 := HR6.out.1.below hb7 (Nat.le_refl _)
      have rh67 := HR6.out.2.below hb7 (Nat.le_refl _)
      have hr7 := ho7.row x3 Z3.out
      have rh7 := oh7.row x4 Z4.out
      clear HK6 HC6 HR6 hb7 p60 p61 p62 p63 p64 q60 q61 q62 q63 q64 d1 d2 d3 d4 hB6 q70 q71 q72 q73 q74 ho7 oh7
      generalize w6.heap.size = c at *
      have hA7 : Below w7.heap.size w7 (w7.alloc (.cells #[.int .i64 x', .int .i64 y', .slice (some ⟨g7, 0, none⟩) n' n', .slice (some ⟨h7, 0, none⟩) m' m'] 52)) := (Below.refl _ _).alloc (Nat.le_refl _) _
      have HK8 : Hid (CA w x y x' y' s t s' t' n m n' m' zs ys zs' ys' (w7.alloc (.cells #[.int .i64 x', .int .i64 y', .slice (some ⟨g7, 0, none⟩) n' n', .slice (some ⟨h7, 0, none⟩) m' m'] 52))) := CA.keep K7 hA7
      have C8 := C7.here hA7
      have HC8 : Hid (BoxF (w7.alloc (.cells #[.int .i64 x', .int .i64 y', .slice (some ⟨g7, 0, none⟩) n' n', .slice (some ⟨h7, 0, none⟩) m' m'] 52)) c x y (.slice (some ⟨g6, 0, none⟩) n n) (.slice (some ⟨h6, 0, none⟩) m m)) := C8
      have HD8 : Hid (BoxF (w7.alloc (.cells #[.int .i64 x', .int .i64 y', .slice (some ⟨g7, 0, none⟩) n' n', .slice (some ⟨h7, 0, none⟩) m' m'] 52)) w7.heap.size x' y' (.slice (some ⟨g7, 0, none⟩) n' n') (.slice (some ⟨h7, 0, none⟩) m' m')) := BoxF.new _ _ _ _ _ _
      have HR8 : Hid ((FRow (w7.alloc (.cells #[.int .i64 x', .int .i64 y', .slice (some ⟨g7, 0, none⟩) n' n', .slice (some ⟨h7, 0, none⟩) m' m'] 52)) (.slice (some ⟨g6, 0, none⟩) n n) n zs ∧ IRow .i64 (w7.alloc (.cells #[.int .i64 x', .int .i64 y', .slice (some ⟨g7, 0, none⟩) n' n', .slice (some ⟨h7, 0, none⟩) m' m'] 52)) (.slice (some ⟨h6, 0, none⟩) m m) m ys) ∧ (FRow (w7.alloc (.cells #[.int .i64 x', .int .i64 y', .slice (some ⟨g7, 0, none⟩) n' n', .slice (some ⟨h7, 0, none⟩) m' m'] 52)) (.slice (some ⟨g7, 0, none⟩) n' n') n' zs' ∧ IRow .i64 (w7.alloc (.cells #[.int .i64 x', .int .i64 y', .slice (some ⟨g7, 0, none⟩) n' n', .slice (some ⟨h7, 0, none⟩) m' m'] 52)) (.slice (some ⟨h7, 0, none⟩) m' m') m' ys')) := ⟨⟨hr67.below hA7 (Nat.le_refl _), rh67.below hA7 (Nat.le_refl _)⟩, ⟨hr7.below hA7 (Nat.le_refl _), rh7.below hA7 (Nat.le_refl _)⟩⟩
      obtain ⟨r70, r71, r72, r73, r74⟩ := C7
      obtain ⟨r80, r81, r82, r83, r84⟩ := C8
      clear K7 hr67 rh67 hr7 rh7 hA7
      go_wp2_with fail
      refine (sameFa_impl x y x' y' _ _ _ _ n m n' m' zs ys zs' ys' _ HR8.out.1.1 HR8.out.1.2 HR8.out.2.1 HR8.out.2.2 l1 l2 l3 l4).mono ?_
      rintro e w8 ⟨rfl, hb8⟩
      have K9 : CA w x y x' y' s t s' t' n m n' m' zs ys zs' ys' w8 := CA.keep HK8.out hb8
      have C9 := BoxF.here HC8.out hb8
      have D9 := BoxF.here HD8.out hb8
      have i1 := HR8.out.1.1.below hb8 (Nat.le_refl _)
      have i2 := HR8.out.1.2.below hb8 (Nat.le_refl _)
      have i3 := HR8.out.2.1.below hb8 (Nat.le_refl _)
      have i4 := HR8.out.2.2.below hb8 (Nat.le_refl _)
      clear HK8 HC8 HD8 HR8 hb8 r70 r71 r72 r73 r74 r80 r81 r82 r83 r84
      generalize w7.heap.size = c' at *
      have hS9 : Hid (CB w c c' (.slice (some ⟨g6, 0, none⟩) n n) (.slice (some ⟨h6, 0, none⟩) m m) (.slice (some ⟨g7, 0, none⟩) n' n') (.slice (some ⟨h7, 0, none⟩) m' m') x y x' y' s t s' t' n m n' m' zs ys zs' ys' w8) :=
        ⟨K9.1, K9.2.1, K9.2.2.1, K9.2.2.2.1, K9.2.2.2.2.1, K9.2.2.2.2.2.1, K9.2.2.2.2.2.2.1, K9.2.2.2.2.2.2.2.1, K9.2.2.2.2.2.2.2.2.1, K9.2.2.2.2.2.2.2.2.2.1, C9.1, C9.2.1, C9.2.2.1, C9.2.2.2.1, C9.2.2.2.2, D9.1, D9.2.1, D9.2.2.1, D9.2.2.2.1, D9.2.2.2.2, i1, i2, i3, i4, K9.2.2.2.2.2.2.2.2.2.2⟩
      obtain ⟨p90, p91, p92, p93, p94, q90, q91, q92, q93, q94, j1, j2, j3, j4, hB9⟩ := K9
      obtain ⟨r90, r91, r92, r93, r94⟩ := C9
      obtain ⟨u90, u91, u92, u93, u94⟩ := D9
      go_wp2_with fail
      go_region_held3 (fun w' => w'.cell? ⟨w.heap.size, 0, none⟩ = some (.int .i64 x) ∧ w'.cell? ⟨w.heap.size, 1, none⟩ = some (.int .i64 y) ∧ w'.cell? ⟨w.heap.size, 2, none⟩ = some s ∧ w'.cell? ⟨w.heap.size, 3, none⟩ = some t ∧ w.heap.size < w'.heap.size ∧ w'.cell? ⟨(w.heap.size + 1), 0, none⟩ = some (.int .i64 x') ∧ w'.cell? ⟨(w.heap.size + 1), 1, none⟩ = some (.int .i64 y') ∧ w'.cell? ⟨(w.heap.size + 1), 2, none⟩ = some s' ∧ w'.cell? ⟨(w.heap.size + 1), 3, none⟩ = some t' ∧ (w.heap.size + 1) < w'.heap.size ∧ w'.cell? ⟨c, 0, none⟩ = some (.int .i64 x) ∧ w'.cell? ⟨c, 1, none⟩ = some (.int .i64 y) ∧ w'.cell? ⟨c, 2, none⟩ = some (.slice (some ⟨g6, 0, none⟩) n n) ∧ w'.cell? ⟨c, 3, none⟩ = some (.slice (some ⟨h6, 0, none⟩) m m) ∧ c < w'.heap.size ∧ w'.cell? ⟨c', 0, none⟩ = some (.int .i64 x') ∧ w'.cell? ⟨c', 1, none⟩ = some (.int .i64 y') ∧ w'.cell? ⟨c', 2, none⟩ = some (.slice (some ⟨g7, 0, none⟩) n' n') ∧ w'.cell? ⟨c', 3, none⟩ = some (.slice (some ⟨h7, 0, none⟩) m' m') ∧ c' < w'.heap.size ∧ FRow w' (.slice (some ⟨g6, 0, none⟩) n n) n zs ∧ IRow .i64 w' (.slice (some ⟨h6, 0, none⟩) m m) m ys ∧ FRow w' (.slice (some ⟨g7, 0, none⟩) n' n') n' zs' ∧ IRow .i64 w' (.slice (some ⟨h7, 0, none⟩) m' m') m' ys' ∧ FRow w' s n zs ∧ IRow .i64 w' t m ys ∧ FRow w' s' n' zs' ∧ IRow .i64 w' t' m' ys' ∧ Below w.heap.size w w')
        (first | assumption | (exact CB.keep hS9.out (Below.drew (Below.refl _ _))) | (refine CB.keep ?_ hb11; assumption) | (refine CB.keep ?_ hb10; assumption))
        (first
          | (go_at_call 33; with_reducible refine (toFa_any x y s t n m zs ys _ (by go_split_ands; assumption) (by go_split_ands; assumption) l1 l2).mono ?_; rintro e w10 ⟨g10, h10, rfl, ho10, oh10, hb10⟩; have hr10 := ho10.row x1 Z1.out; have rh10 := oh10.row x2 Z2.out)
          | (go_at_call 35; refine (eqFa_any x y _ _ _ _ n m zs ys _ (by go_split_ands; assumption) hr10 (by go_split_ands; assumption) rh10 l1 l2).mono ?_; rintro e w11 ⟨rfl, hb11⟩))
      have hS11 : Hid (CB w c c' (.slice (some ⟨g6, 0, none⟩) n n) (.slice (some ⟨h6, 0, none⟩) m m) (.slice (some ⟨g7, 0, none⟩) n' n') (.slice (some ⟨h7, 0, none⟩) m' m') x y x' y' s t s' t' n m n' m' zs ys zs' ys' w11) := by show CB w c c' (.slice (some ⟨g6, 0, none⟩) n n) (.slice (some ⟨h6, 0, none⟩) m m) (.slice (some ⟨g7, 0, none⟩) n' n') (.slice (some ⟨h7, 0, none⟩) m' m') x y x' y' s t s' t' n m n' m' zs ys zs' ys' w11; assumption
      clear hS9 p90 p91 p92 p93 p94 q90 q91 q92 q93 q94 j1 j2 j3 j4 hB9 r90 r91 r92 r93 r94 u90 u91 u92 u93 u94 hb10 hb11 hr10 rh10 ho10 oh10 i1 i2 i3 i4
      go_split_ands
      go_wp2_with fail
      go_region_held3 (fun w' => w'.cell? ⟨w.heap.size, 0, none⟩ = some (.int .i64 x) ∧ w'.cell? ⟨w.heap.size, 1, none⟩ = some (.int .i64 y) ∧ w'.cell? ⟨w.heap.size, 2, none⟩ = some s ∧ w'.cell? ⟨w.heap.size, 3, none⟩ = some t ∧ w.heap.size < w'.heap.size ∧ w'.cell? ⟨(w.heap.size + 1), 0, none⟩ = some (.int .i64 x') ∧ w'.cell? ⟨(w.heap.size + 1), 1, none⟩ = some (.int .i64 y') ∧ w'.cell? ⟨(w.heap.size + 1), 2, none⟩ = some s' ∧ w'.cell? ⟨(w.heap.size + 1), 3, none⟩ = some t' ∧ (w.heap.size + 1) < w'.heap.size ∧ w'.cell? ⟨c, 0, none⟩ = some (.int .i64 x) ∧ w'.cell? ⟨c, 1, none⟩ = some (.int .i64 y) ∧ w'.cell? ⟨c, 2, none⟩ = some (.slice (some ⟨g6, 0, none⟩) n n) ∧ w'.cell? ⟨c, 3, none⟩ = some (.slice (some ⟨h6, 0, none⟩) m m) ∧ c < w'.heap.size ∧ w'.cell? ⟨c', 0, none⟩ = some (.int .i64 x') ∧ w'.cell? ⟨c', 1, none⟩ = some (.int .i64 y') ∧ w'.cell? ⟨c', 2, none⟩ = some (.slice (some ⟨g7, 0, none⟩) n' n') ∧ w'.cell? ⟨c', 3, none⟩ = some (.slice (some ⟨h7, 0, none⟩) m' m') ∧ c' < w'.heap.size ∧ FRow w' (.slice (some ⟨g6, 0, none⟩) n n) n zs ∧ IRow .i64 w' (.slice (some ⟨h6, 0, none⟩) m m) m ys ∧ FRow w' (.slice (some ⟨g7, 0, none⟩) n' n') n' zs' ∧ IRow .i64 w' (.slice (some ⟨h7, 0, none⟩) m' m') m' ys' ∧ FRow w' s n zs ∧ IRow .i64 w' t m ys ∧ FRow w' s' n' zs' ∧ IRow .i64 w' t' m' ys' ∧ Below w.heap.size w w')
        (first | assumption | (exact CB.keep hS11.out (Below.drew (Below.refl _ _))) | (refine CB.keep ?_ hb13; assumption) | (refine CB.keep ?_ hb12; assumption))
        (first
          | (go_at_call 33; with_reducible refine (toFa_any x' y' s' t' n' m' zs' ys' _ (by go_split_ands; assumption) (by go_split_ands; assumption) l3 l4).mono ?_; rintro e w12 ⟨g12, h12, rfl, ho12, oh12, hb12⟩; have hr12 := ho12.row x3 Z3.out; have rh12 := oh12.row x4 Z4.out)
          | (go_at_call 35; refine (eqFa_any x' y' _ _ _ _ n' m' zs' ys' _ (by go_split_ands; assumption) hr12 (by go_split_ands; assumption) rh12 l3 l4).mono ?_; rintro e w13 ⟨rfl, hb13⟩))
      go_split_ands
      go_wp2_with fail
      go_ret
      exact ⟨rfl, by assumption⟩
    · have HS2 : Hid (∀ w', FRow w' s' n' zs' → IRow .i64 w' t' m' ys' → Calls Try.prog 31 #[.agg #[.int .i64 x', .int .i64 y', s', t'], .int .i64 (1048576 - n - m)] w' fun e w'' => e = .returned (.int .i64 (-1)) ∧ Below w'.heap.size w' w'') := fun w' h h' => by
        have := szFa_gen (1048576 - n - m) (by omega) (by omega) x' y' s' t' n' m' zs' ys' w' h h'
        rwa [if_neg (by omega)] at this
      go_enter Try.func9, Try.ntmps9
      go_wp2_with fail
      refine (HS.out _ K0.out.2.2.2.2.2.2.2.2.2.2.1 K0.out.2.2.2.2.2.2.2.2.2.2.2.1).mono ?_
      rintro e w1 ⟨rfl, hb1⟩
      have K1 : CA w x y x' y' s t s' t' n m n' m' zs ys zs' ys' w1 := CA.keep K0.out hb1
      have HK1 : Hid (CA w x y x' y' s t s' t' n m n' m' zs ys zs' ys' w1) := K1
      obtain ⟨p10, p11, p12, p13, p14, q10, q11, q12, q13, q14, a1, a2, a3, a4, hB1⟩ := K1
      clear K0 hb1
      go_wp2_with fail
      refine (HS2.out _ a3 a4).mono ?_
      rintro e w2 ⟨rfl, hb2⟩
      have K2 : CA w x y x' y' s t s' t' n m n' m' zs ys zs' ys' w2 := CA.keep HK1.out hb2
      have hB2 := K2.2.2.2.2.2.2.2.2.2.2.2.2.2.2
      clear K2
      go_wp2_with fail
      go_ret
      exact ⟨rfl, hB2⟩
  · have HS : Hid (∀ w', FRow w' s n zs → IRow .i64 w' t m ys → Calls Try.prog 31 #[.agg #[.int .i64 x, .int .i64 y, s, t], .int .i64 1048576] w' fun e w'' => e = .returned (.int .i64 (-1)) ∧ Below w'.heap.size w' w'') := fun w' h h' => by
      have := szFa_gen 1048576 (by decide) (by decide) x y s t n m zs ys w' h h'
      rwa [if_neg (by omega)] at this
    go_enter Try.func9, Try.ntmps9
    go_wp2_with fail
    refine (HS.out _ K0.out.2.2.2.2.2.2.2.2.2.2.1 K0.out.2.2.2.2.2.2.2.2.2.2.2.1).mono ?_
    rintro e w1 ⟨rfl, hb1⟩
    have K1 : CA w x y x' y' s t s' t' n m n' m' zs ys zs' ys' w1 := CA.keep K0.out hb1
    have hB1 := K1.2.2.2.2.2.2.2.2.2.2.2.2.2.2
    clear K1
    go_wp2_with fail
    go_ret
    exact ⟨rfl, hB1⟩

end Go.Proofs.Yteblbalciemkiaa
