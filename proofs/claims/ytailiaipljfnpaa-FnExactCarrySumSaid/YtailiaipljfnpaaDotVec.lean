/- Contracts of DotVectors on both sides, and the walk of its law. -/
import Derived.Test.YtailiaipljfnpaaVecLaw
namespace Go.Proofs.Ytailiaipljfnpaa
open Go.RowKit Opn

def vecsB (n n' : Nat) (zs ys : List Nat) : Bool := (vecB n zs && vecB n' ys) && decide (n = n')
/-- is the class a finite number? -/
def finF (v : Option Nat) : Bool := match v with | some b => finB b | none => false
def dvB (n n' : Nat) (zs ys : List Nat) : Bool := vecsB n n' zs ys && finF (dotF zs ys)

theorem fin_Fl {v : Option Nat} {r : Nat} (h : Flt.Fl .f32 v r) : finB r = finF v := by
  cases v with
  | none =>
    have := Flt.cls_none h.cls
    unfold finB finF; exact decide_eq_false (by omega)
  | some b =>
    have := (Flt.cls_some h.cls).1
    subst this; rfl

set_option maxHeartbeats 1000000 in
theorem vecs_spec (v v' : Value) (n n' : Nat) (zs ys : List Nat) (w : World) (h : FRow w v n zs) (h' : FRow w v' n' ys) (hn : n ≤ 1048576) (hn' : n' ≤ 1048576) : Calls Try.prog 38 #[v, v'] w fun e w' => e = .returned (.bool (vecsB n n' zs ys)) ∧ ∃ m, w' = w.drewN m := by
  obtain ⟨ao, cap, hv⟩ := h.form
  obtain ⟨ao', cap', hv'⟩ := h'.form
  subst hv hv'
  unfold vecsB
  cases h1 : vecB n zs with
  | false =>
    simp only [Bool.false_and]
    go_enter Try.func38, Try.ntmps38
    go_wp2_with fail
    refine (isVec_spec _ _ _ _ h hn).mono ?_
    rw [h1]
    rintro e w' ⟨rfl, m, rfl⟩
    go_wp2_with fail
    go_ret
    exact ⟨rfl, _, rfl⟩
  | true =>
    cases h2 : vecB n' ys with
    | false =>
      simp only [Bool.and_false, Bool.false_and]
      go_enter Try.func38, Try.ntmps38
      go_wp2_with fail
      refine (isVec_spec _ _ _ _ h hn).mono ?_
      rw [h1]
      rintro e w' ⟨rfl, m, rfl⟩
      go_wp2_with fail
      refine (isVec_spec _ _ _ _ (h'.drewN m) hn').mono ?_
      rw [h2]
      rintro e w' ⟨rfl, m', rfl⟩
      go_wp2_with fail
      go_ret
      exact ⟨rfl, by repeat (first | exact ⟨_, rfl⟩ | exact ⟨_, by rw [World.drewN_drewN]⟩)⟩
    | true =>
      simp only [Bool.true_and]
      cases h3 : decide (n = n') with
      | false =>
        have hq : ((n : Int) == (n' : Int)) = false := by rw [beq_eq_false_iff_ne]; have := of_decide_eq_false h3; omega
        clear h3
        go_enter Try.func38, Try.ntmps38
        go_wp2_with fail
        refine (isVec_spec _ _ _ _ h hn).mono ?_
        rw [h1]
        rintro e w' ⟨rfl, m, rfl⟩
        go_wp2_with fail
        refine (isVec_spec _ _ _ _ (h'.drewN m) hn').mono ?_
        rw [h2]
        rintro e w' ⟨rfl, m', rfl⟩
        go_wp2_with fail
        go_ret
        exact ⟨rfl, by repeat (first | exact ⟨_, rfl⟩ | exact ⟨_, by rw [World.drewN_drewN]⟩)⟩
      | true =>
        have hq : ((n : Int) == (n' : Int)) = true := by rw [beq_iff_eq]; have := of_decide_eq_true h3; omega
        clear h3
        go_enter Try.func38, Try.ntmps38
        go_wp2_with fail
        refine (isVec_spec _ _ _ _ h hn).mono ?_
        rw [h1]
        rintro e w' ⟨rfl, m, rfl⟩
        go_wp2_with fail
        refine (isVec_spec _ _ _ _ (h'.drewN m) hn').mono ?_
        rw [h2]
        rintro e w' ⟨rfl, m', rfl⟩
        go_wp2_with fail
        go_ret
        exact ⟨rfl, by repeat (first | exact ⟨_, rfl⟩ | exact ⟨_, by rw [World.drewN_drewN]⟩)⟩

set_option maxHeartbeats 1000000 in
theorem vecs_impl (v v' : Value) (n n' : Nat) (zs ys : List Nat) (w : World) (h : FRow w v n zs) (h' : FRow w v' n' ys) (hn : n ≤ 1048576) (hn' : n' ≤ 1048576) : Calls Try.prog 41 #[v, v'] w fun e w' => e = .returned (.bool (vecsB n n' zs ys)) ∧ ∃ m, w' = w.drewN m := by
  obtain ⟨ao, cap, hv⟩ := h.form
  obtain ⟨ao', cap', hv'⟩ := h'.form
  subst hv hv'
  unfold vecsB
  cases h1 : vecB n zs with
  | false =>
    simp only [Bool.false_and]
    go_enter Try.func41, Try.ntmps41
    go_wp2_with fail
    refine (isVec_impl _ _ _ _ h hn).mono ?_
    rw [h1]
    rintro e w' ⟨rfl, m, rfl⟩
    go_wp2_with fail
    go_ret
    exact ⟨rfl, _, rfl⟩
  | true =>
    cases h2 : vecB n' ys with
    | false =>
      simp only [Bool.and_false, Bool.false_and]
      go_enter Try.func41, Try.ntmps41
      go_wp2_with fail
      refine (isVec_impl _ _ _ _ h hn).mono ?_
      rw [h1]
      rintro e w' ⟨rfl, m, rfl⟩
      go_wp2_with fail
      refine (isVec_impl _ _ _ _ (h'.drewN m) hn').mono ?_
      rw [h2]
      rintro e w' ⟨rfl, m', rfl⟩
      go_wp2_with fail
      go_ret
      exact ⟨rfl, by repeat (first | exact ⟨_, rfl⟩ | exact ⟨_, by rw [World.drewN_drewN]⟩)⟩
    | true =>
      simp only [Bool.true_and]
      cases h3 : decide (n = n') with
      | false =>
        have hq : ((n : Int) == (n' : Int)) = false := by rw [beq_eq_false_iff_ne]; have := of_decide_eq_false h3; omega
        clear h3
        go_enter Try.func41, Try.ntmps41
        go_wp2_with fail
        refine (isVec_impl _ _ _ _ h hn).mono ?_
        rw [h1]
        rintro e w' ⟨rfl, m, rfl⟩
        go_wp2_with fail
        refine (isVec_impl _ _ _ _ (h'.drewN m) hn').mono ?_
        rw [h2]
        rintro e w' ⟨rfl, m', rfl⟩
        go_wp2_with fail
        go_ret
        exact ⟨rfl, by repeat (first | exact ⟨_, rfl⟩ | exact ⟨_, by rw [World.drewN_drewN]⟩)⟩
      | true =>
        have hq : ((n : Int) == (n' : Int)) = true := by rw [beq_iff_eq]; have := of_decide_eq_true h3; omega
        clear h3
        go_enter Try.func41, Try.ntmps41
        go_wp2_with fail
        refine (isVec_impl _ _ _ _ h hn).mono ?_
        rw [h1]
        rintro e w' ⟨rfl, m, rfl⟩
        go_wp2_with fail
        refine (isVec_impl _ _ _ _ (h'.drewN m) hn').mono ?_
        rw [h2]
        rintro e w' ⟨rfl, m', rfl⟩
        go_wp2_with fail
        go_ret
        exact ⟨rfl, by repeat (first | exact ⟨_, rfl⟩ | exact ⟨_, by rw [World.drewN_drewN]⟩)⟩

theorem num_spec (x : Nat) (w : World) : Calls Try.prog 39 #[.float .f32 x] w fun e w' => e = .returned (.tuple #[.float .f32 (if finB x then x else 0), .bool (finB x)]) ∧ ∃ m, w' = w.drewN m := by
  cases hf : finB x with
  | true =>
    simp only [if_true]
    go_enter Try.func39, Try.ntmps39
    go_wp2_with (go_at_call 37; refine (isFinite_spec _ _).mono ?_; rw [hf]; rintro e w' ⟨rfl, m, rfl⟩)
    go_ret2
    exact ⟨rfl, _, rfl⟩
  | false =>
    simp only [Bool.false_eq_true, if_false]
    go_enter Try.func39, Try.ntmps39
    go_wp2_with (go_at_call 37; refine (isFinite_spec _ _).mono ?_; rw [hf]; rintro e w' ⟨rfl, m, rfl⟩)
    go_ret2
    exact ⟨rfl, _, rfl⟩

theorem num_impl (x : Nat) (w : World) : Calls Try.prog 43 #[.float .f32 x] w fun e w' => e = .returned (.tuple #[.float .f32 (if finB x then x else 0), .bool (finB x)]) ∧ ∃ m, w' = w.drewN m := by
  cases hf : finB x with
  | true =>
    simp only [if_true]
    go_enter Try.func43, Try.ntmps43
    go_wp2_with (go_at_call 47; refine (isFinite_impl _ _).mono ?_; rw [hf]; rintro e w' ⟨rfl, m, rfl⟩)
    go_ret2
    exact ⟨rfl, _, rfl⟩
  | false =>
    simp only [Bool.false_eq_true, if_false]
    go_enter Try.func43, Try.ntmps43
    go_wp2_with (go_at_call 47; refine (isFinite_impl _ _).mono ?_; rw [hf]; rintro e w' ⟨rfl, m, rfl⟩)
    go_ret2
    exact ⟨rfl, _, rfl⟩

set_option maxHeartbeats 1000000 in
theorem dv_spec (v v' : Value) (n n' : Nat) (zs ys : List Nat) (w : World) (h : FRow w v n zs) (h' : FRow w v' n' ys) (hn : n ≤ 1048576) (hn' : n' ≤ 1048576) : Calls Try.prog 23 #[v, v'] w fun e w' => ∃ r, e = .returned (.tuple #[.float .f32 r, .bool (dvB n n' zs ys)]) ∧ Flt.Fl .f32 (if dvB n n' zs ys then dotF zs ys else some 0) r ∧ ∃ m, w' = w.drewN m := by
  cases hv : vecsB n n' zs ys with
  | false =>
    have hd : dvB n n' zs ys = false := by unfold dvB; rw [hv]; rfl
    rw [hd]
    simp only [Bool.false_eq_true, if_false]
    clear hd
    obtain ⟨ao, cap, he⟩ := h.form
    obtain ⟨ao', cap', he'⟩ := h'.form
    subst he he'
    go_enter Try.func23, Try.ntmps23
    go_wp2_with fail
    refine (vecs_spec _ _ _ _ _ _ _ h h' hn hn').mono ?_
    rw [hv]
    rintro e w' ⟨rfl, m, rfl⟩
    go_wp2_with fail
    go_ret2
    exact ⟨_, rfl, fl_zero, _, rfl⟩
  | true =>
    have he : n = n' := by
      unfold vecsB at hv
      simp only [Bool.and_eq_true, decide_eq_true_eq] at hv
      exact hv.2
    subst he
    have hd : dvB n n zs ys = finF (dotF zs ys) := by unfold dvB; rw [hv]; rfl
    rw [hd]
    have HV : Hid _ := hv
    clear hd hv
    generalize hD : dotF zs ys = D
    have HD : Hid _ := hD
    clear hD
    obtain ⟨ao, cap, he⟩ := h.form
    obtain ⟨ao', cap', he'⟩ := h'.form
    subst he he'
    go_enter Try.func23, Try.ntmps23
    go_wp2_with fail
    refine (vecs_spec _ _ _ _ _ _ _ h h' hn hn').mono ?_
    rw [HV.out]
    rintro e w' ⟨rfl, m, rfl⟩
    go_wp2_with fail
    refine (dot2_spec _ _ _ _ _ _ (h.drewN m) (h'.drewN m) hn).mono ?_
    rw [HD.out]
    rintro e w' ⟨r, rfl, hr, m', rfl⟩
    go_wp2_with fail
    refine (num_spec _ _).mono ?_
    rw [fin_Fl hr]
    rintro e w' ⟨rfl, m'', rfl⟩
    have HR : Hid _ := hr
    clear hr
    go_wp2_with fail
    all_goals
      go_ret2
      first | exact ⟨_, rfl, HR.out, _, rfl⟩ | exact ⟨_, rfl, fl_zero, _, rfl⟩

set_option maxHeartbeats 1000000 in
theorem dv_impl (v v' : Value) (n n' : Nat) (zs ys : List Nat) (w : World) (h : FRow w v n zs) (h' : FRow w v' n' ys) (hn : n ≤ 1048576) (hn' : n' ≤ 1048576) : Calls Try.prog 24 #[v, v'] w fun e w' => ∃ r, e = .returned (.tuple #[.float .f32 r, .bool (dvB n n' zs ys)]) ∧ Flt.Fl .f32 (if dvB n n' zs ys then dotF zs ys else some 0) r ∧ ∃ m, w' = w.drewN m := by
  cases hv : vecsB n n' zs ys with
  | false =>
    have hd : dvB n n' zs ys = false := by unfold dvB; rw [hv]; rfl
    rw [hd]
    simp only [Bool.false_eq_true, if_false]
    clear hd
    obtain ⟨ao, cap, he⟩ := h.form
    obtain ⟨ao', cap', he'⟩ := h'.form
    subst he he'
    go_enter Try.func24, Try.ntmps24
    go_wp2_with fail
    refine (vecs_impl _ _ _ _ _ _ _ h h' hn hn').mono ?_
    rw [hv]
    rintro e w' ⟨rfl, m, rfl⟩
    go_wp2_with fail
    go_ret2
    exact ⟨_, rfl, fl_zero, _, rfl⟩
  | true =>
    have he : n = n' := by
      unfold vecsB at hv
      simp only [Bool.and_eq_true, decide_eq_true_eq] at hv
      exact hv.2
    subst he
    have hd : dvB n n zs ys = finF (dotF zs ys) := by unfold dvB; rw [hv]; rfl
    rw [hd]
    have HV : Hid _ := hv
    clear hd hv
    generalize hD : dotF zs ys = D
    have HD : Hid _ := hD
    clear hD
    obtain ⟨ao, cap, he⟩ := h.form
    obtain ⟨ao', cap', he'⟩ := h'.form
    subst he he'
    go_enter Try.func24, Try.ntmps24
    go_wp2_with fail
    refine (vecs_impl _ _ _ _ _ _ _ h h' hn hn').mono ?_
    rw [HV.out]
    rintro e w' ⟨rfl, m, rfl⟩
    go_wp2_with fail
    refine (dot_impl _ _ _ _ _ _ (h.drewN m) (h'.drewN m) hn).mono ?_
    rw [HD.out]
    rintro e w' ⟨r, rfl, hr, m', rfl⟩
    go_wp2_with fail
    refine (num_impl _ _).mono ?_
    rw [fin_Fl hr]
    rintro e w' ⟨rfl, m'', rfl⟩
    have HR : Hid _ := hr
    clear hr
    go_wp2_with fail
    all_goals
      go_ret2
      first | exact ⟨_, rfl, HR.out, _, rfl⟩ | exact ⟨_, rfl, fl_zero, _, rfl⟩


set_option maxHeartbeats 1000000 in
theorem dotVectors_walk (v : Value) (n : Nat) (zs : List Nat) (v' : Value) (n' : Nat) (ys : List Nat) (w : World) (hF : FRow w v n zs) (hG : FRow w v' n' ys) :
    Calls Try.prog 8 #[v, v'] w fun e w' => e = .returned (.bool true) ∧ Below w.heap.size w w' := by
  obtain ⟨ao, cap, hv⟩ := hF.form
  obtain ⟨ao', cap', hv'⟩ := hG.form
  subst hv hv'
  have hmx := hF.mx
  have hmx' := hG.mx
  have hz : Hid _ := hF.lt
  have hz' : Hid _ := hG.lt
  have hmm : n ≤ 9223372036854775807 := hmx
  have hmm' : n' ≤ 9223372036854775807 := hmx'
  by_cases hn : n ≤ 1048576
  · have hd : decide ((1048576 : Int) < (n : Int)) = false := decide_eq_false (by omega)
    by_cases hn' : n' ≤ 1048576
    · have hd' : decide ((1048576 : Int) < (n' : Int)) = false := decide_eq_false (by omega)
      go_enter Try.func8, Try.ntmps8
      go_wp2_with fail
      refine (toF_any _ _ _ _ hF hn).mono ?_
      rintro e w1 ⟨g1, rfl, hg1, ho1, hb1⟩
      have hF1 := hF.below hb1 (Nat.le_refl _)
      have hG1 := hG.below hb1 (Nat.le_refl _)
      have hR1 := ho1.row hmx hz.out
      go_wp2_with fail
      refine (toF_any _ _ _ _ hG1 hn').mono ?_
      rintro e w2 ⟨g2, rfl, hg2, ho2, hb2⟩
      have hB2 := hb1.trans (hb2.mono hb1.size)
      have hF2 := hF1.below hb2 (Nat.le_refl _)
      have hG2 := hG1.below hb2 (Nat.le_refl _)
      have hR1' := hR1.below hb2 (Nat.le_refl _)
      have hR2 := ho2.row hmx' hz'.out
      go_wp2_with fail
      refine (dv_spec _ _ _ _ _ _ _ hR1' hR2 hn hn').mono ?_
      rintro e w3 ⟨r1, rfl, hr1, m1, rfl⟩
      go_wp2_with fail
      refine (toF_any _ _ _ _ (hF2.drewN m1) hn).mono ?_
      rintro e w4 ⟨g3, rfl, hg3, ho3, hb3⟩
      have hB3 := (below_drewN hB2 m1).trans (hb3.mono (by have := hB2.size; simpa using this))
      have hF3 := (hF2.drewN m1).below hb3 (Nat.le_refl _)
      have hG3 := (hG2.drewN m1).below hb3 (Nat.le_refl _)
      have hS1 := ho3.row hmx hz.out
      go_wp2_with fail
      refine (toF_any _ _ _ _ hG3 hn').mono ?_
      rintro e w5 ⟨g4, rfl, hg4, ho4, hb4⟩
      have hB4 := hB3.trans (hb4.mono hB3.size)
      have hF4 := hF3.below hb4 (Nat.le_refl _)
      have hG4 := hG3.below hb4 (Nat.le_refl _)
      have hS1' := hS1.below hb4 (Nat.le_refl _)
      have hS2 := ho4.row hmx' hz'.out
      go_wp2_with fail
      refine (dv_impl _ _ _ _ _ _ _ hS1' hS2 hn hn').mono ?_
      rintro e w6 ⟨r2, rfl, hr2, m2, rfl⟩
      go_wp2_with fail
      refine (sameFloat_any _ _ _ _ (wid_of hr2 _) (wid_of hr1 _)).mono ?_
      rintro e w7 ⟨rfl, rfl⟩
      go_wp2_with fail
      refine (toF_any _ _ _ _ (by exact hF4) hn).mono ?_
      rintro e w8 ⟨g5, rfl, hg5, ho5, hb5⟩
      have hB5 := (below_drewN hB4 _).trans (hb5.mono (by have := hB4.size; simpa using this))
      have hG5 := Opn.FRow.below (hG4.drewN _) hb5 (Nat.le_refl _)
      have hU := ho5.row hmx hz.out
      have hS1'' := Opn.FRow.below (hS1'.drewN _) hb5 (Nat.le_refl _)
      have hS2'' := Opn.FRow.below (hS2.drewN _) hb5 (Nat.le_refl _)
      go_wp2_with fail
      refine (eqF_any _ _ _ _ _ hS1'' hU hn).mono ?_
      rintro e w9 ⟨rfl, m3, rfl⟩
      go_wp2_with fail
      refine (toF_any _ _ _ _ (hG5.drewN m3) hn').mono ?_
      rintro e wa ⟨g6, rfl, hg6, ho6, hb6⟩
      have hB6 := (below_drewN hB5 m3).trans (hb6.mono (by have := hB5.size; simpa using this))
      have hV := ho6.row hmx' hz'.out
      have hS2f := (hS2''.drewN m3).below hb6 (Nat.le_refl _)
      go_wp2_with fail
      refine (eqF_any _ _ _ _ _ hS2f hV hn').mono ?_
      rintro e wb ⟨rfl, m4, rfl⟩
      go_wp2_with fail
      go_ret
      exact ⟨rfl, below_drewN hB6 _⟩
    · have hd' : decide ((1048576 : Int) < (n' : Int)) = true := decide_eq_true (by omega)
      go_enter Try.func8, Try.ntmps8
      go_wp2
      go_ret
      exact ⟨rfl, Below.refl _ _⟩
  · have hd : decide ((1048576 : Int) < (n : Int)) = true := decide_eq_true (by omega)
    go_enter Try.func8, Try.ntmps8
    go_wp2
    go_ret
    exact ⟨rfl, Below.refl _ _⟩

end Go.Proofs.Ytailiaipljfnpaa
