/- The walks of the laws on sums of float32 slices and on sums of their products. -/
import Derived.Test.YtailiaipljfnpaaSum
namespace Go.Proofs.Ytailiaipljfnpaa
open Go.RowKit Opn

theorem Opn.FRow.form {w : World} {v : Value} {n : Nat} {zs : List Nat} (h : FRow w v n zs) : ∃ ao cap, v = .slice ao n cap := by
  rcases h.2.2.2 with ⟨h0, ao, cap, hv⟩ | ⟨h0, b, off, cap, hv, _⟩
  · exact ⟨ao, cap, by rw [hv, h0]⟩
  · exact ⟨_, cap, hv⟩

theorem Opn.FRow.mx {w : World} {v : Value} {n : Nat} {zs : List Nat} (h : FRow w v n zs) : n ≤ maxLen := h.2.1
theorem Opn.FRow.lt {w : World} {v : Value} {n : Nat} {zs : List Nat} (h : FRow w v n zs) : ∀ z ∈ zs, z < 4294967296 := h.2.2.1

theorem wid_of {v : Option Nat} {r : Nat} (h : Flt.Fl .f32 v r) (w : World) : Flt.Fl .f64 (Flt.wid v) (Flt.cB .f32 .f64 r w) := by
  have := Flt.widen_Fl r w
  rwa [h.cls] at this

theorem sumNumbers_spec (v : Value) (n : Nat) (zs : List Nat) (w : World) (h : FRow w v n zs) (hn : n ≤ 1048576) : Calls Try.prog 10 #[v] w fun e w' => ∃ r, e = .returned (.tuple #[.float .f32 r, .bool (decide (n ≤ 256))]) ∧ Flt.Fl .f32 (if n ≤ 256 then sumF zs else some 0) r ∧ ∃ m, w' = w.drewN m := by
  obtain ⟨ao, cap, hv⟩ := h.form
  subst hv
  by_cases hc : n ≤ 256
  · rw [if_pos hc, decide_eq_true hc]
    have hd : decide ((n : Int) ≤ 256) = true := decide_eq_true (by omega)
    clear hc
    go_enter Try.func10, Try.ntmps10
    go_wp2_with (first | (go_at_call 28; refine (sum_spec _ _ _ _ h hn).mono ?_; rintro e w' ⟨r, rfl, hr, m, rfl⟩) | go_in)
    go_ret2
    exact ⟨_, rfl, hr, _, rfl⟩
  · rw [if_neg hc, decide_eq_false hc]
    have hd : decide ((n : Int) ≤ 256) = false := decide_eq_false (by omega)
    clear hc
    go_enter Try.func10, Try.ntmps10
    go_wp2
    go_ret2
    exact ⟨_, rfl, fl_zero, 0, rfl⟩

theorem sumNumbers_impl (v : Value) (n : Nat) (zs : List Nat) (w : World) (h : FRow w v n zs) (hn : n ≤ 1048576) : Calls Try.prog 12 #[v] w fun e w' => ∃ r, e = .returned (.tuple #[.float .f32 r, .bool (decide (n ≤ 256))]) ∧ Flt.Fl .f32 (if n ≤ 256 then sumF zs else some 0) r ∧ ∃ m, w' = w.drewN m := by
  obtain ⟨ao, cap, hv⟩ := h.form
  subst hv
  by_cases hc : n ≤ 256
  · rw [if_pos hc, decide_eq_true hc]
    have hd : decide ((n : Int) ≤ 256) = true := decide_eq_true (by omega)
    clear hc
    go_enter Try.func12, Try.ntmps12
    go_wp2_with (first | (go_at_call 30; refine (sum_impl _ _ _ _ h hn).mono ?_; rintro e w' ⟨r, rfl, hr, m, rfl⟩) | go_in)
    go_ret2
    exact ⟨_, rfl, hr, _, rfl⟩
  · rw [if_neg hc, decide_eq_false hc]
    have hd : decide ((n : Int) ≤ 256) = false := decide_eq_false (by omega)
    clear hc
    go_enter Try.func12, Try.ntmps12
    go_wp2
    go_ret2
    exact ⟨_, rfl, fl_zero, 0, rfl⟩

theorem dotNumbers_spec (v v' : Value) (n n' : Nat) (zs ys : List Nat) (w : World) (h : FRow w v n zs) (h' : FRow w v' n' ys) (hn : n ≤ 1048576) (hn' : n' ≤ 1048576) : Calls Try.prog 15 #[v, v'] w fun e w' => ∃ r, e = .returned (.tuple #[.float .f32 r, .bool (decide (n ≤ 256 ∧ n = n'))]) ∧ Flt.Fl .f32 (if n ≤ 256 ∧ n = n' then dotF zs ys else some 0) r ∧ ∃ m, w' = w.drewN m := by
  obtain ⟨ao, cap, hv⟩ := h.form
  obtain ⟨ao', cap', hv'⟩ := h'.form
  subst hv hv'
  by_cases hc : n ≤ 256
  · by_cases he : n = n'
    · subst he
      rw [if_pos ⟨hc, rfl⟩, decide_eq_true ⟨hc, rfl⟩]
      have hd : decide ((n : Int) ≤ 256) = true := decide_eq_true (by omega)
      clear hc
      go_enter Try.func15, Try.ntmps15
      go_wp2_with (first | (go_at_call 31; refine (dot_spec _ _ _ _ _ _ h h' hn).mono ?_; rintro e w' ⟨r, rfl, hr, m, rfl⟩) | go_in)
      go_ret2
      exact ⟨_, rfl, hr, _, rfl⟩
    · rw [if_neg (by omega), decide_eq_false (by omega)]
      have hd : decide ((n : Int) ≤ 256) = true := decide_eq_true (by omega)
      have hq : ((n : Int) != (n' : Int)) = true := by rw [bne_iff_ne]; omega
      clear hc he
      go_enter Try.func15, Try.ntmps15
      go_wp2
      go_ret2
      exact ⟨_, rfl, fl_zero, 0, rfl⟩
  · rw [if_neg (by omega), decide_eq_false (by omega)]
    have hd : decide ((n : Int) ≤ 256) = false := decide_eq_false (by omega)
    clear hc
    go_enter Try.func15, Try.ntmps15
    go_wp2
    go_ret2
    exact ⟨_, rfl, fl_zero, 0, rfl⟩

theorem dotNumbers_impl (v v' : Value) (n n' : Nat) (zs ys : List Nat) (w : World) (h : FRow w v n zs) (h' : FRow w v' n' ys) (hn : n ≤ 1048576) (hn' : n' ≤ 1048576) : Calls Try.prog 16 #[v, v'] w fun e w' => ∃ r, e = .returned (.tuple #[.float .f32 r, .bool (decide (n ≤ 256 ∧ n = n'))]) ∧ Flt.Fl .f32 (if n ≤ 256 ∧ n = n' then dotF zs ys else some 0) r ∧ ∃ m, w' = w.drewN m := by
  obtain ⟨ao, cap, hv⟩ := h.form
  obtain ⟨ao', cap', hv'⟩ := h'.form
  subst hv hv'
  by_cases hc : n ≤ 256
  · by_cases he : n = n'
    · subst he
      rw [if_pos ⟨hc, rfl⟩, decide_eq_true ⟨hc, rfl⟩]
      have hd : decide ((n : Int) ≤ 256) = true := decide_eq_true (by omega)
      clear hc
      go_enter Try.func16, Try.ntmps16
      go_wp2_with (first | (go_at_call 32; refine (dot_impl _ _ _ _ _ _ h h' hn).mono ?_; rintro e w' ⟨r, rfl, hr, m, rfl⟩) | go_in)
      go_ret2
      exact ⟨_, rfl, hr, _, rfl⟩
    · rw [if_neg (by omega), decide_eq_false (by omega)]
      have hd : decide ((n : Int) ≤ 256) = true := decide_eq_true (by omega)
      have hq : ((n : Int) != (n' : Int)) = true := by rw [bne_iff_ne]; omega
      clear hc he
      go_enter Try.func16, Try.ntmps16
      go_wp2
      go_ret2
      exact ⟨_, rfl, fl_zero, 0, rfl⟩
  · rw [if_neg (by omega), decide_eq_false (by omega)]
    have hd : decide ((n : Int) ≤ 256) = false := decide_eq_false (by omega)
    clear hc
    go_enter Try.func16, Try.ntmps16
    go_wp2
    go_ret2
    exact ⟨_, rfl, fl_zero, 0, rfl⟩


set_option maxHeartbeats 1000000 in
theorem sumNumbers_walk (v : Value) (n : Nat) (zs : List Nat) (w : World) (hF : FRow w v n zs) :
    Calls Try.prog 3 #[v] w fun e w' => e = .returned (.bool true) ∧ Below w.heap.size w w' := by
  obtain ⟨ao, cap, hv⟩ := hF.form
  subst hv
  have hmx := hF.mx
  have hz : Hid _ := hF.lt
  have hmm : n ≤ 9223372036854775807 := hmx
  by_cases hn : n ≤ 1048576
  · have hd : decide ((1048576 : Int) < (n : Int)) = false := decide_eq_false (by omega)
    go_enter Try.func3, Try.ntmps3
    go_wp2_with fail
    refine (toF_any _ _ _ _ hF hn).mono ?_
    rintro e w1 ⟨g1, rfl, hg1, ho1, hb1⟩
    have hF1 := hF.below hb1 (Nat.le_refl _)
    have hR1 := ho1.row hmx hz.out
    go_wp2_with fail
    refine (sumNumbers_spec _ _ _ _ hR1 hn).mono ?_
    rintro e w2 ⟨r1, rfl, hr1, m1, rfl⟩
    go_wp2_with fail
    refine (toF_any _ _ _ _ (hF1.drewN m1) hn).mono ?_
    rintro e w3 ⟨g2, rfl, hg2, ho2, hb2⟩
    have hF2 := (hF1.drewN m1).below hb2 (Nat.le_refl _)
    have hR2 := ho2.row hmx hz.out
    go_wp2_with fail
    refine (sumNumbers_impl _ _ _ _ hR2 hn).mono ?_
    rintro e w4 ⟨r2, rfl, hr2, m2, rfl⟩
    go_wp2_with fail
    refine (sameFloat_any _ _ _ _ (wid_of hr2 _) (wid_of hr1 _)).mono ?_
    rintro e w5 ⟨rfl, rfl⟩
    go_wp2_with fail
    refine (toF_any _ _ _ _ (by exact hF2) hn).mono ?_
    rintro e w6 ⟨g3, rfl, hg3, ho3, hb3⟩
    have hR3 := ho3.row hmx hz.out
    have hR2' := Opn.FRow.below (by exact hR2) hb3 (Nat.le_refl _)
    go_wp2_with fail
    refine (eqF_any _ _ _ _ _ hR2' hR3 hn).mono ?_
    rintro e w7 ⟨rfl, m3, rfl⟩
    go_wp2_with fail
    go_ret
    refine ⟨rfl, below_drewN ?_ _⟩
    refine Below.trans ?_ (hb3.mono ?_)
    · repeat refine below_drewN ?_ _
      refine Below.trans ?_ (hb2.mono ?_)
      · exact below_drewN hb1 _
      · have := hb1.size; simpa using this
    · have := hb1.size; have := hb2.size; simp at *; omega
  · have hd : decide ((1048576 : Int) < (n : Int)) = true := decide_eq_true (by omega)
    go_enter Try.func3, Try.ntmps3
    go_wp2
    go_ret
    exact ⟨rfl, Below.refl _ _⟩

set_option maxHeartbeats 1000000 in
theorem dotNumbers_walk (v : Value) (n : Nat) (zs : List Nat) (v' : Value) (n' : Nat) (ys : List Nat) (w : World) (hF : FRow w v n zs) (hG : FRow w v' n' ys) :
    Calls Try.prog 4 #[v, v'] w fun e w' => e = .returned (.bool true) ∧ Below w.heap.size w w' := by
  obtain ⟨ao, cap, hv⟩ := hF.form
  obtain ⟨ao', cap', hv'⟩ := hG.form
  subst hv hv'
  have hmx := hF.mx
  have hmx' := hG.mx
  have hz : Hid _ := hF.lt
  have hz' : Hid _ := hG.lt
  have hmm : n ≤ 9223372036854775807 := hmx
  have hmm' : n' ≤ 9223372036854775807 := hmx'
  by_cases hn : n ≤ 1048576
  · have hd : decide ((1048576 : Int) < (n : Int)) = false := decide_eq_false (by omega)
    by_cases hn' : n' ≤ 1048576
    · have hd' : decide ((1048576 : Int) < (n' : Int)) = false := decide_eq_false (by omega)
      go_enter Try.func4, Try.ntmps4
      go_wp2_with fail
      refine (toF_any _ _ _ _ hF hn).mono ?_
      rintro e w1 ⟨g1, rfl, hg1, ho1, hb1⟩
      have hF1 := hF.below hb1 (Nat.le_refl _)
      have hG1 := hG.below hb1 (Nat.le_refl _)
      have hR1 := ho1.row hmx hz.out
      go_wp2_with fail
      refine (toF_any _ _ _ _ hG1 hn').mono ?_
      rintro e w2 ⟨g2, rfl, hg2, ho2, hb2⟩
      have hB2 := hb1.trans (hb2.mono hb1.size)
      have hF2 := hF1.below hb2 (Nat.le_refl _)
      have hG2 := hG1.below hb2 (Nat.le_refl _)
      have hR1' := hR1.below hb2 (Nat.le_refl _)
      have hR2 := ho2.row hmx' hz'.out
      go_wp2_with fail
      refine (dotNumbers_spec _ _ _ _ _ _ _ hR1' hR2 hn hn').mono ?_
      rintro e w3 ⟨r1, rfl, hr1, m1, rfl⟩
      go_wp2_with fail
      refine (toF_any _ _ _ _ (hF2.drewN m1) hn).mono ?_
      rintro e w4 ⟨g3, rfl, hg3, ho3, hb3⟩
      have hB3 := (below_drewN hB2 m1).trans (hb3.mono (by have := hB2.size; simpa using this))
      have hF3 := (hF2.drewN m1).below hb3 (Nat.le_refl _)
      have hG3 := (hG2.drewN m1).below hb3 (Nat.le_refl _)
      have hS1 := ho3.row hmx hz.out
      go_wp2_with fail
      refine (toF_any _ _ _ _ hG3 hn').mono ?_
      rintro e w5 ⟨g4, rfl, hg4, ho4, hb4⟩
      have hB4 := hB3.trans (hb4.mono hB3.size)
      have hF4 := hF3.below hb4 (Nat.le_refl _)
      have hG4 := hG3.below hb4 (Nat.le_refl _)
      have hS1' := hS1.below hb4 (Nat.le_refl _)
      have hS2 := ho4.row hmx' hz'.out
      go_wp2_with fail
      refine (dotNumbers_impl _ _ _ _ _ _ _ hS1' hS2 hn hn').mono ?_
      rintro e w6 ⟨r2, rfl, hr2, m2, rfl⟩
      go_wp2_with fail
      refine (sameFloat_any _ _ _ _ (wid_of hr2 _) (wid_of hr1 _)).mono ?_
      rintro e w7 ⟨rfl, rfl⟩
      go_wp2_with fail
      refine (toF_any _ _ _ _ (by exact hF4) hn).mono ?_
      rintro e w8 ⟨g5, rfl, hg5, ho5, hb5⟩
      have hB5 := (below_drewN hB4 _).trans (hb5.mono (by have := hB4.size; simpa using this))
      have hG5 := Opn.FRow.below (hG4.drewN _) hb5 (Nat.le_refl _)
      have hU := ho5.row hmx hz.out
      have hS1'' := Opn.FRow.below (hS1'.drewN _) hb5 (Nat.le_refl _)
      have hS2'' := Opn.FRow.below (hS2.drewN _) hb5 (Nat.le_refl _)
      go_wp2_with fail
      refine (eqF_any _ _ _ _ _ hS1'' hU hn).mono ?_
      rintro e w9 ⟨rfl, m3, rfl⟩
      go_wp2_with fail
      refine (toF_any _ _ _ _ (hG5.drewN m3) hn').mono ?_
      rintro e wa ⟨g6, rfl, hg6, ho6, hb6⟩
      have hB6 := (below_drewN hB5 m3).trans (hb6.mono (by have := hB5.size; simpa using this))
      have hV := ho6.row hmx' hz'.out
      have hS2f := (hS2''.drewN m3).below hb6 (Nat.le_refl _)
      go_wp2_with fail
      refine (eqF_any _ _ _ _ _ hS2f hV hn').mono ?_
      rintro e wb ⟨rfl, m4, rfl⟩
      go_wp2_with fail
      go_ret
      exact ⟨rfl, below_drewN hB6 _⟩
    · have hd' : decide ((1048576 : Int) < (n' : Int)) = true := decide_eq_true (by omega)
      go_enter Try.func4, Try.ntmps4
      go_wp2
      go_ret
      exact ⟨rfl, Below.refl _ _⟩
  · have hd : decide ((1048576 : Int) < (n : Int)) = true := decide_eq_true (by omega)
    go_enter Try.func4, Try.ntmps4
    go_wp2
    go_ret
    exact ⟨rfl, Below.refl _ _⟩

end Go.Proofs.Ytailiaipljfnpaa
