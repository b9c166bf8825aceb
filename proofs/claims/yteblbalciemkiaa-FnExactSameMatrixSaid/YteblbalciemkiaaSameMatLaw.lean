/- The walk of the law of SameMatrix. -/
import Derived.Test.YteblbalciemkiaaSameMat
import Derived.Test.YteblbalciemkiaaSize
import Derived.Test.YteblbalciemkiaaValidLaw
namespace Go.Proofs.Yteblbalciemkiaa
open Go.RowKit Opn
set_option linter.unusedVariables false

abbrev SA (w : World) (x y : Int) (s : Value) (x' y' : Int) (s' : Value) (n n' : Nat) (zs ys : List Nat) (w' : World) : Prop :=
  w'.cell? ⟨w.heap.size, 0, none⟩ = some (.int .i64 x) ∧ w'.cell? ⟨w.heap.size, 1, none⟩ = some (.int .i64 y) ∧ w'.cell? ⟨w.heap.size, 2, none⟩ = some s ∧ w.heap.size < w'.heap.size ∧ w'.cell? ⟨(w.heap.size + 1), 0, none⟩ = some (.int .i64 x') ∧ w'.cell? ⟨(w.heap.size + 1), 1, none⟩ = some (.int .i64 y') ∧ w'.cell? ⟨(w.heap.size + 1), 2, none⟩ = some s' ∧ (w.heap.size + 1) < w'.heap.size ∧ FRow w' s n zs ∧ FRow w' s' n' ys ∧ Below w.heap.size w w'
theorem SA.keep {w : World} {x y : Int} {s : Value} {x' y' : Int} {s' : Value} {n n' : Nat} {zs ys : List Nat} {w1 w2 : World} (h : SA w x y s x' y' s' n n' zs ys w1) (hb : Below w1.heap.size w1 w2) : SA w x y s x' y' s' n n' zs ys w2 := by
  obtain ⟨p0, p1, p2, p3, q0, q1, q2, q3, f, g, b⟩ := h
  obtain ⟨P0, P1, P2, P3⟩ := BoxM.here ⟨p0, p1, p2, p3⟩ hb
  obtain ⟨Q0, Q1, Q2, Q3⟩ := BoxM.here ⟨q0, q1, q2, q3⟩ hb
  exact ⟨P0, P1, P2, P3, Q0, Q1, Q2, Q3, f.below hb (Nat.le_refl _), g.below hb (Nat.le_refl _), b.trans (hb.mono b.size)⟩

abbrev SB (w : World) (c c' : Nat) (x y : Int) (s t : Value) (x' y' : Int) (s' t' : Value) (n n' : Nat) (zs ys : List Nat) (w' : World) : Prop :=
  w'.cell? ⟨w.heap.size, 0, none⟩ = some (.int .i64 x) ∧ w'.cell? ⟨w.heap.size, 1, none⟩ = some (.int .i64 y) ∧ w'.cell? ⟨w.heap.size, 2, none⟩ = some s ∧ w.heap.size < w'.heap.size ∧ w'.cell? ⟨(w.heap.size + 1), 0, none⟩ = some (.int .i64 x') ∧ w'.cell? ⟨(w.heap.size + 1), 1, none⟩ = some (.int .i64 y') ∧ w'.cell? ⟨(w.heap.size + 1), 2, none⟩ = some s' ∧ (w.heap.size + 1) < w'.heap.size ∧ w'.cell? ⟨c, 0, none⟩ = some (.int .i64 x) ∧ w'.cell? ⟨c, 1, none⟩ = some (.int .i64 y) ∧ w'.cell? ⟨c, 2, none⟩ = some t ∧ c < w'.heap.size ∧ w'.cell? ⟨c', 0, none⟩ = some (.int .i64 x') ∧ w'.cell? ⟨c', 1, none⟩ = some (.int .i64 y') ∧ w'.cell? ⟨c', 2, none⟩ = some t' ∧ c' < w'.heap.size ∧ FRow w' t n zs ∧ FRow w' t' n' ys ∧ FRow w' s n zs ∧ FRow w' s' n' ys ∧ Below w.heap.size w w'
theorem SB.keep {w : World} {c c' : Nat} {x y : Int} {s t : Value} {x' y' : Int} {s' t' : Value} {n n' : Nat} {zs ys : List Nat} {w1 w2 : World} (h : SB w c c' x y s t x' y' s' t' n n' zs ys w1) (hb : Below w1.heap.size w1 w2) : SB w c c' x y s t x' y' s' t' n n' zs ys w2 := by
  obtain ⟨p0, p1, p2, p3, q0, q1, q2, q3, r0, r1, r2, r3, u0, u1, u2, u3, ft, gt, f, g, b⟩ := h
  obtain ⟨P0, P1, P2, P3⟩ := BoxM.here ⟨p0, p1, p2, p3⟩ hb
  obtain ⟨Q0, Q1, Q2, Q3⟩ := BoxM.here ⟨q0, q1, q2, q3⟩ hb
  obtain ⟨R0, R1, R2, R3⟩ := BoxM.here ⟨r0, r1, r2, r3⟩ hb
  obtain ⟨U0, U1, U2, U3⟩ := BoxM.here ⟨u0, u1, u2, u3⟩ hb
  exact ⟨P0, P1, P2, P3, Q0, Q1, Q2, Q3, R0, R1, R2, R3, U0, U1, U2, U3, ft.below hb (Nat.le_refl _), gt.below hb (Nat.le_refl _), f.below hb (Nat.le_refl _), g.below hb (Nat.le_refl _), b.trans (hb.mono b.size)⟩

set_option maxHeartbeats 8000000 in
theorem sameMatrix_walk (x y : Int) (s : Value) (n : Nat) (zs : List Nat) (x' y' : Int) (s' : Value) (n' : Nat) (ys : List Nat) (w : World) (_ : (Lit.int .i64 x).wf = true) (_ : (Lit.int .i64 y).wf = true) (hF : FRow w s n zs) (_ : (Lit.int .i64 x').wf = true) (_ : (Lit.int .i64 y').wf = true) (hG : FRow w s' n' ys) :
    Calls Try.prog 7 #[.agg #[.int .i64 x, .int .i64 y, s], .agg #[.int .i64 x', .int .i64 y', s']] w fun e w' => e = .returned (.bool true) ∧ Below w.heap.size w w' := by
  have hmx : n ≤ maxLen := hF.2.1
  have hmx' : n' ≤ maxLen := hG.2.1
  have HZ : Hid (∀ z ∈ zs, z < 4294967296) := hF.2.2.1
  have HY : Hid (∀ z ∈ ys, z < 4294967296) := hG.2.2.1
  have hA : Below w.heap.size w (w.alloc (.cells #[.int .i64 x, .int .i64 y, s] 40)) := (Below.refl _ _).alloc (Nat.le_refl _) _
  have hA2 : Below (w.alloc (.cells #[.int .i64 x, .int .i64 y, s] 40)).heap.size (w.alloc (.cells #[.int .i64 x, .int .i64 y, s] 40)) ((w.alloc (.cells #[.int .i64 x, .int .i64 y, s] 40)).alloc (.cells #[.int .i64 x', .int .i64 y', s'] 40)) := (Below.refl _ _).alloc (Nat.le_refl _) _
  have hB0 := hA.trans (hA2.mono hA.size)
  have Xa := (BoxM.new w x y s 40).here hA2
  have Xb := BoxM.new (w.alloc (.cells #[.int .i64 x, .int .i64 y, s] 40)) x' y' s' 40
  rw [show (w.alloc (.cells #[.int .i64 x, .int .i64 y, s] 40)).heap.size = w.heap.size + 1 by simp] at Xb
  have K0 : Hid (SA w x y s x' y' s' n n' zs ys ((w.alloc (.cells #[.int .i64 x, .int .i64 y, s] 40)).alloc (.cells #[.int .i64 x', .int .i64 y', s'] 40))) :=
    ⟨Xa.1, Xa.2.1, Xa.2.2.1, Xa.2.2.2, Xb.1, Xb.2.1, Xb.2.2.1, Xb.2.2.2, hF.below hB0 (Nat.le_refl _), hG.below hB0 (Nat.le_refl _), hB0⟩
  clear hF hG hA hA2 hB0 Xa Xb

  by_cases hn : n ≤ 1048576
  · have HS : Hid (∀ w', FRow w' s n zs → Calls Try.prog 25 #[.agg #[.int .i64 x, .int .i64 y, s], .int .i64 1048576] w' fun e w'' => e = .returned (.int .i64 (1048576 - n)) ∧ Below w'.heap.size w' w'') := fun w' h => by
      have := szM_gen 1048576 (by decide) (by decide) x y s n zs w' h
      rwa [if_pos (by omega)] at this
    have hd : decide ((1048576 : Int) - (n : Int) < 0) = false := decide_eq_false (by omega)
    by_cases hn2 : n + n' ≤ 1048576
    · have HS2 : Hid (∀ w', FRow w' s' n' ys → Calls Try.prog 25 #[.agg #[.int .i64 x', .int .i64 y', s'], .int .i64 (1048576 - n)] w' fun e w'' => e = .returned (.int .i64 (1048576 - n - n')) ∧ Below w'.heap.size w' w'') := fun w' h => by
        have := szM_gen (1048576 - n) (by omega) (by omega) x' y' s' n' ys w' h
        rwa [if_pos (by omega)] at this
      have hd2 : decide ((1048576 : Int) - (n : Int) - (n' : Int) < 0) = false := decide_eq_false (by omega)
      have hn' : n' ≤ 1048576 := by omega
      go_enter Try.func7, Try.ntmps7
      go_wp2_with fail
      refine (HS.out _ K0.out.2.2.2.2.2.2.2.2.1).mono ?_
      rintro e w1 ⟨rfl, hb1⟩
      have K1 : SA w x y s x' y' s' n n' zs ys w1 := SA.keep K0.out hb1
      have HK1 : Hid (SA w x y s x' y' s' n n' zs ys w1) := K1
      obtain ⟨p10, p11, p12, p13, q10, q11, q12, q13, hf1, hg1, hB1⟩ := K1
      clear K0 hb1
      go_wp2_with fail
      refine (HS2.out _ hg1).mono ?_
      rintro e w2 ⟨rfl, hb2⟩
      have K2 : SA w x y s x' y' s' n n' zs ys w2 := SA.keep HK1.out hb2
      have hS2 : Hid (SA w x y s x' y' s' n n' zs ys w2) := K2
      obtain ⟨p20, p21, p22, p23, q20, q21, q22, q23, hf2, hg2, hB2⟩ := K2
      clear p10 p11 p12 p13 q10 q11 q12 q13 hf1 hg1 hB1 HK1 hb2 HS HS2
      go_wp2_with fail
      go_region_held3 (fun w' => w'.cell? ⟨w.heap.size, 0, none⟩ = some (.int .i64 x) ∧ w'.cell? ⟨w.heap.size, 1, none⟩ = some (.int .i64 y) ∧ w'.cell? ⟨w.heap.size, 2, none⟩ = some s ∧ w.heap.size < w'.heap.size ∧ w'.cell? ⟨(w.heap.size + 1), 0, none⟩ = some (.int .i64 x') ∧ w'.cell? ⟨(w.heap.size + 1), 1, none⟩ = some (.int .i64 y') ∧ w'.cell? ⟨(w.heap.size + 1), 2, none⟩ = some s' ∧ (w.heap.size + 1) < w'.heap.size ∧ FRow w' s n zs ∧ FRow w' s' n' ys ∧ Below w.heap.size w w')
        (first | assumption | (exact SA.keep hS2.out (Below.drew (Below.refl _ _))) | (refine SA.keep ?_ hb5; assumption) | (refine SA.keep ?_ hb4; assumption) | (refine SA.keep ?_ hb3; assumption))
        (first
          | (go_at_call 27; with_reducible refine (toM_any x y s n zs _ (by go_split_ands; assumption) hn).mono ?_; rintro e w3 ⟨g3, rfl, hg3, ho3, hb3⟩; have hr3 := ho3.row hmx HZ.out)
          | (go_at_call 27; with_reducible refine (toM_any x' y' s' n' ys _ (by go_split_ands; assumption) hn').mono ?_; rintro e w4 ⟨g4, rfl, hg4, ho4, hb4⟩; have hr4 := ho4.row hmx' HY.out; have hr34 := hr3.below hb4 (Nat.le_refl _))
          | (go_at_call 26; refine (sameM_spec x y x' y' _ _ n n' zs ys _ hr34 hr4 hn hn').mono ?_; rintro e w5 ⟨rfl, hb5⟩))
      have hS5 : Hid (SA w x y s x' y' s' n n' zs ys w5) := by show SA w x y s x' y' s' n n' zs ys w5; assumption
      obtain ⟨p50, p51, p52, p53, q50, q51, q52, q53, hf5, hg5, hB5⟩ := hS5.out
      clear hS2 p20 p21 p22 p23 q20 q21 q22 q23 hf2 hg2 hB2 hr3 hr4 hr34 ho3 ho4 hg3 hg4 hb3 hb4 hb5
      go_wp2_with fail
      refine (toM_any x y s n zs _ hf5 hn).mono ?_
      rintro e w6 ⟨g6, rfl, hg6, ho6, hb6⟩
      have K6 : SA w x y s x' y' s' n n' zs ys w6 := SA.keep hS5.out hb6
      have hr6 := ho6.row hmx HZ.out
      have hA6 : Below w6.heap.size w6 (w6.alloc (.cells #[.int .i64 x, .int .i64 y, .slice (some ⟨g6, 0, none⟩) n n] 24)) := (Below.refl _ _).alloc (Nat.le_refl _) _
      have HK6 : Hid (SA w x y s x' y' s' n n' zs ys (w6.alloc (.cells #[.int .i64 x, .int .i64 y, .slice (some ⟨g6, 0, none⟩) n n] 24))) := SA.keep K6 hA6
      have HC6 : Hid (BoxM (w6.alloc (.cells #[.int .i64 x, .int .i64 y, .slice (some ⟨g6, 0, none⟩) n n] 24)) w6.heap.size x y (.slice (some ⟨g6, 0, none⟩) n n)) := BoxM.new _ _ _ _ _
      have HR6 : Hid (FRow (w6.alloc (.cells #[.int .i64 x, .int .i64 y, .slice (some ⟨g6, 0, none⟩) n n] 24)) (.slice (some ⟨g6, 0, none⟩) n n) n zs) := hr6.below hA6 (Nat.le_refl _)
      obtain ⟨p60, p61, p62, p63, q60, q61, q62, q63, hf6, hg6', hB6⟩ := K6
      obtain ⟨_, _, _, _, q70, q71, q72, q73, _, _, _⟩ := HK6.out
      clear p50 p51 p52 p53 q50 q51 q52 q53 hf5 hg5 hB5 hb6 hr6 hA6 ho6 hg6 hS5
      go_wp2_with fail
      refine (toM_any x' y' s' n' ys _ HK6.out.2.2.2.2.2.2.2.2.2.1 hn').mono ?_
      rintro e w7 ⟨g7, rfl, hg7, ho7, hb7⟩
      have K7 : SA w x y s x' y' s' n n' zs ys w7 := SA.keep HK6.out hb7
      have C7 := BoxM.here HC6.out hb7
      have hr67 := HR6.out.below hb7 (Nat.le_refl _)
      have hr7 := ho7.row hmx' HY.out
      clear HK6 HC6 HR6 hb7 p60 p61 p62 p63 q60 q61 q62 q63 hf6 hg6' hB6 q70 q71 q72 q73 ho7 hg7
      generalize w6.heap.size = c at *
      have hA7 : Below w7.heap.size w7 (w7.alloc (.cells #[.int .i64 x', .int .i64 y', .slice (some ⟨g7, 0, none⟩) n' n'] 24)) := (Below.refl _ _).alloc (Nat.le_refl _) _
      have HK8 : Hid (SA w x y s x' y' s' n n' zs ys (w7.alloc (.cells #[.int .i64 x', .int .i64 y', .slice (some ⟨g7, 0, none⟩) n' n'] 24))) := SA.keep K7 hA7
      have C8 := C7.here hA7
      have HC8 : Hid (BoxM (w7.alloc (.cells #[.int .i64 x', .int .i64 y', .slice (some ⟨g7, 0, none⟩) n' n'] 24)) c x y (.slice (some ⟨g6, 0, none⟩) n n)) := C8
      have HD8 : Hid (BoxM (w7.alloc (.cells #[.int .i64 x', .int .i64 y', .slice (some ⟨g7, 0, none⟩) n' n'] 24)) w7.heap.size x' y' (.slice (some ⟨g7, 0, none⟩) n' n')) := BoxM.new _ _ _ _ _
      have HR8 : Hid (FRow (w7.alloc (.cells #[.int .i64 x', .int .i64 y', .slice (some ⟨g7, 0, none⟩) n' n'] 24)) (.slice (some ⟨g6, 0, none⟩) n n) n zs ∧ FRow (w7.alloc (.cells #[.int .i64 x', .int .i64 y', .slice (some ⟨g7, 0, none⟩) n' n'] 24)) (.slice (some ⟨g7, 0, none⟩) n' n') n' ys) := ⟨hr67.below hA7 (Nat.le_refl _), hr7.below hA7 (Nat.le_refl _)⟩
      obtain ⟨r70, r71, r72, r73⟩ := C7
      obtain ⟨r80, r81, r82, r83⟩ := C8
      clear K7 hr67 hr7 hA7
      go_wp2_with fail
      refine (sameM_impl x y x' y' _ _ n n' zs ys _ HR8.out.1 HR8.out.2 hn hn').mono ?_
      rintro e w8 ⟨rfl, hb8⟩
      have K9 : SA w x y s x' y' s' n n' zs ys w8 := SA.keep HK8.out hb8
      have C9 := BoxM.here HC8.out hb8
      have D9 := BoxM.here HD8.out hb8
      have f9 := HR8.out.1.below hb8 (Nat.le_refl _)
      have g9 := HR8.out.2.below hb8 (Nat.le_refl _)
      clear HK8 HC8 HD8 HR8 hb8 r70 r71 r72 r73 r80 r81 r82 r83
      generalize w7.heap.size = c' at *
      have hS9 : Hid (SB w c c' x y s (.slice (some ⟨g6, 0, none⟩) n n) x' y' s' (.slice (some ⟨g7, 0, none⟩) n' n') n n' zs ys w8) :=
        ⟨K9.1, K9.2.1, K9.2.2.1, K9.2.2.2.1, K9.2.2.2.2.1, K9.2.2.2.2.2.1, K9.2.2.2.2.2.2.1, K9.2.2.2.2.2.2.2.1, C9.1, C9.2.1, C9.2.2.1, C9.2.2.2, D9.1, D9.2.1, D9.2.2.1, D9.2.2.2, f9, g9, K9.2.2.2.2.2.2.2.2⟩
      obtain ⟨p90, p91, p92, p93, q90, q91, q92, q93, hf9, hg9, hB9⟩ := K9
      obtain ⟨r90, r91, r92, r93⟩ := C9
      obtain ⟨u90, u91, u92, u93⟩ := D9
      go_wp2_with fail
      go_region_held3 (fun w' => w'.cell? ⟨w.heap.size, 0, none⟩ = some (.int .i64 x) ∧ w'.cell? ⟨w.heap.size, 1, none⟩ = some (.int .i64 y) ∧ w'.cell? ⟨w.heap.size, 2, none⟩ = some s ∧ w.heap.size < w'.heap.size ∧ w'.cell? ⟨(w.heap.size + 1), 0, none⟩ = some (.int .i64 x') ∧ w'.cell? ⟨(w.heap.size + 1), 1, none⟩ = some (.int .i64 y') ∧ w'.cell? ⟨(w.heap.size + 1), 2, none⟩ = some s' ∧ (w.heap.size + 1) < w'.heap.size ∧ w'.cell? ⟨c, 0, none⟩ = some (.int .i64 x) ∧ w'.cell? ⟨c, 1, none⟩ = some (.int .i64 y) ∧ w'.cell? ⟨c, 2, none⟩ = some (.slice (some ⟨g6, 0, none⟩) n n) ∧ c < w'.heap.size ∧ w'.cell? ⟨c', 0, none⟩ = some (.int .i64 x') ∧ w'.cell? ⟨c', 1, none⟩ = some (.int .i64 y') ∧ w'.cell? ⟨c', 2, none⟩ = some (.slice (some ⟨g7, 0, none⟩) n' n') ∧ c' < w'.heap.size ∧ FRow w' (.slice (some ⟨g6, 0, none⟩) n n) n zs ∧ FRow w' (.slice (some ⟨g7, 0, none⟩) n' n') n' ys ∧ FRow w' s n zs ∧ FRow w' s' n' ys ∧ Below w.heap.size w w')
        (first | assumption | (exact SB.keep hS9.out (Below.drew (Below.refl _ _))) | (refine SB.keep ?_ hb11; assumption) | (refine SB.keep ?_ hb10; assumption))
        (first
          | (go_at_call 27; with_reducible refine (toM_any x y s n zs _ (by go_split_ands; assumption) hn).mono ?_; rintro e w10 ⟨g10, rfl, hg10, ho10, hb10⟩; have hr10 := ho10.row hmx HZ.out)
          | (go_at_call 13; refine (eqM_any x y _ _ n zs _ (by go_split_ands; assumption) hr10 hn).mono ?_; rintro e w11 ⟨rfl, hb11⟩))
      have hS11 : Hid (SB w c c' x y s (.slice (some ⟨g6, 0, none⟩) n n) x' y' s' (.slice (some ⟨g7, 0, none⟩) n' n') n n' zs ys w11) := by show SB w c c' x y s (.slice (some ⟨g6, 0, none⟩) n n) x' y' s' (.slice (some ⟨g7, 0, none⟩) n' n') n n' zs ys w11; assumption
      clear hS9 p90 p91 p92 p93 q90 q91 q92 q93 hf9 hg9 hB9 r90 r91 r92 r93 u90 u91 u92 u93 hb10 hb11 hr10 ho10 hg10 f9 g9
      go_split_ands
      go_wp2_with fail
      go_region_held3 (fun w' => w'.cell? ⟨w.heap.size, 0, none⟩ = some (.int .i64 x) ∧ w'.cell? ⟨w.heap.size, 1, none⟩ = some (.int .i64 y) ∧ w'.cell? ⟨w.heap.size, 2, none⟩ = some s ∧ w.heap.size < w'.heap.size ∧ w'.cell? ⟨(w.heap.size + 1), 0, none⟩ = some (.int .i64 x') ∧ w'.cell? ⟨(w.heap.size + 1), 1, none⟩ = some (.int .i64 y') ∧ w'.cell? ⟨(w.heap.size + 1), 2, none⟩ = some s' ∧ (w.heap.size + 1) < w'.heap.size ∧ w'.cell? ⟨c, 0, none⟩ = some (.int .i64 x) ∧ w'.cell? ⟨c, 1, none⟩ = some (.int .i64 y) ∧ w'.cell? ⟨c, 2, none⟩ = some (.slice (some ⟨g6, 0, none⟩) n n) ∧ c < w'.heap.size ∧ w'.cell? ⟨c', 0, none⟩ = some (.int .i64 x') ∧ w'.cell? ⟨c', 1, none⟩ = some (.int .i64 y') ∧ w'.cell? ⟨c', 2, none⟩ = some (.slice (some ⟨g7, 0, none⟩) n' n') ∧ c' < w'.heap.size ∧ FRow w' (.slice (some ⟨g6, 0, none⟩) n n) n zs ∧ FRow w' (.slice (some ⟨g7, 0, none⟩) n' n') n' ys ∧ FRow w' s n zs ∧ FRow w' s' n' ys ∧ Below w.heap.size w w')
        (first | assumption | (exact SB.keep hS11.out (Below.drew (Below.refl _ _))) | (refine SB.keep ?_ hb13; assumption) | (refine SB.keep ?_ hb12; assumption))
        (first
          | (go_at_call 27; with_reducible refine (toM_any x' y' s' n' ys _ (by go_split_ands; assumption) hn').mono ?_; rintro e w12 ⟨g12, rfl, hg12, ho12, hb12⟩; have hr12 := ho12.row hmx' HY.out)
          | (go_at_call 13; refine (eqM_any x' y' _ _ n' ys _ (by go_split_ands; assumption) hr12 hn').mono ?_; rintro e w13 ⟨rfl, hb13⟩))
      go_split_ands
      go_wp2_with fail
      go_ret
      exact ⟨rfl, by assumption⟩
    · have HS2 : Hid (∀ w', FRow w' s' n' ys → Calls Try.prog 25 #[.agg #[.int .i64 x', .int .i64 y', s'], .int .i64 (1048576 - n)] w' fun e w'' => e = .returned (.int .i64 (-1)) ∧ Below w'.heap.size w' w'') := fun w' h => by
        have := szM_gen (1048576 - n) (by omega) (by omega) x' y' s' n' ys w' h
        rwa [if_neg (by omega)] at this
      go_enter Try.func7, Try.ntmps7
      go_wp2_with fail
      refine (HS.out _ K0.out.2.2.2.2.2.2.2.2.1).mono ?_
      rintro e w1 ⟨rfl, hb1⟩
      have K1 : SA w x y s x' y' s' n n' zs ys w1 := SA.keep K0.out hb1
      have HK1 : Hid (SA w x y s x' y' s' n n' zs ys w1) := K1
      obtain ⟨p10, p11, p12, p13, q10, q11, q12, q13, hf1, hg1, hB1⟩ := K1
      clear K0 hb1
      go_wp2_with fail
      refine (HS2.out _ hg1).mono ?_
      rintro e w2 ⟨rfl, hb2⟩
      have K2 : SA w x y s x' y' s' n n' zs ys w2 := SA.keep HK1.out hb2
      have hB2 := K2.2.2.2.2.2.2.2.2.2.2
      clear K2
      go_wp2_with fail
      go_ret
      exact ⟨rfl, hB2⟩
  · have HS : Hid (∀ w', FRow w' s n zs → Calls Try.prog 25 #[.agg #[.int .i64 x, .int .i64 y, s], .int .i64 1048576] w' fun e w'' => e = .returned (.int .i64 (-1)) ∧ Below w'.heap.size w' w'') := fun w' h => by
      have := szM_gen 1048576 (by decide) (by decide) x y s n zs w' h
      rwa [if_neg (by omega)] at this
    go_enter Try.func7, Try.ntmps7
    go_wp2_with fail
    refine (HS.out _ K0.out.2.2.2.2.2.2.2.2.1).mono ?_
    rintro e w1 ⟨rfl, hb1⟩
    have K1 : SA w x y s x' y' s' n n' zs ys w1 := SA.keep K0.out hb1
    have hB1 := K1.2.2.2.2.2.2.2.2.2.2
    clear K1
    go_wp2_with fail
    go_ret
    exact ⟨rfl, hB1⟩

end Go.Proofs.Yteblbalciemkiaa
