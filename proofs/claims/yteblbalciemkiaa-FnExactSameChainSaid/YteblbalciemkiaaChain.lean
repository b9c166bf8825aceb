/- Contracts of the laws' helpers on chains. -/
import Derived.Test.YteblbalciemkiaaMat
namespace Go.Proofs.Yteblbalciemkiaa
open Go.RowKit Opn

theorem szC_gen (k : Int) (hk0 : 0 ≤ k) (hk1 : k ≤ 1048576) (s t : Value) (n m : Nat) (zs ys : List Nat) (w : World) (h : FRow w s n zs) (h' : FRow w t m ys) : Calls Try.prog 20 #[.agg #[s, t], .int .i64 k] w fun e w' => e = .returned (.int .i64 (if (n : Int) + m ≤ k then k - n - m else -1)) ∧ Below w.heap.size w w' := by
  have h2 : n ≤ 9223372036854775807 := h.2.1
  have h3 : m ≤ 9223372036854775807 := h'.2.1
  obtain ⟨ao, cap, rfl⟩ : ∃ ao cap, s = .slice ao n cap := by
    rcases h.2.2.2 with ⟨h0, ao, cap, hv⟩ | ⟨h0, b, off, cap, hv, _⟩
    · exact ⟨ao, cap, by rw [hv, h0]⟩
    · exact ⟨_, cap, hv⟩
  obtain ⟨ao', cap', rfl⟩ : ∃ ao cap, t = .slice ao m cap := by
    rcases h'.2.2.2 with ⟨h0, ao, cap, hv⟩ | ⟨h0, b, off, cap, hv, _⟩
    · exact ⟨ao, cap, by rw [hv, h0]⟩
    · exact ⟨_, cap, hv⟩
  clear h h'
  by_cases hn : (n : Int) ≤ k
  · have hd : decide (k - (n : Int) < 0) = false := decide_eq_false (by omega)
    by_cases hm : (n : Int) + m ≤ k
    · rw [if_pos hm]
      have hd2 : decide (k - (n : Int) - (m : Int) < 0) = false := decide_eq_false (by omega)
      go_enter Try.func20, Try.ntmps20
      go_wp2_with go_in
      go_ret
      exact ⟨by simp, by go_grown⟩
    · rw [if_neg hm]
      have hd2 : decide (k - (n : Int) - (m : Int) < 0) = true := decide_eq_true (by omega)
      go_enter Try.func20, Try.ntmps20
      go_wp2_with go_in
      go_ret
      exact ⟨rfl, by go_grown⟩
  · rw [if_neg (by omega)]
    have hd : decide (k - (n : Int) < 0) = true := decide_eq_true (by omega)
    go_enter Try.func20, Try.ntmps20
    go_wp2_with go_in
    go_ret
    exact ⟨rfl, by go_grown⟩

set_option maxHeartbeats 2000000 in
theorem toC_any (s t : Value) (n m : Nat) (zs ys : List Nat) (w : World) (h : FRow w s n zs) (h' : FRow w t m ys) (hn : n ≤ 1048576) (hm : m ≤ 1048576) : Calls Try.prog 22 #[.agg #[s, t]] w fun e w' => ∃ g g', e = .returned (.agg #[.slice (some ⟨g, 0, none⟩) n n, .slice (some ⟨g', 0, none⟩) m m]) ∧ FOwn w' g n zs ∧ FOwn w' g' m ys ∧ Below w.heap.size w w' := by
  have H : Hid (FRow w s n zs) := h
  have H' : Hid (FRow w t m ys) := h'
  clear h h'
  go_enter Try.func22, Try.ntmps22
  go_wp2_with fail
  refine (toF_any s n zs _ (H.out.below (B := w.heap.size) (by go_grown) (Nat.le_refl _)) hn).mono ?_
  rintro e w1 ⟨g, rfl, hg, ho, hb⟩
  have hg1 : w.heap.size + 1 + 1 + 1 ≤ g := by simpa using hg
  have p0 : w1.cell? ⟨w.heap.size, 0, none⟩ = some s := by rw [hb.cell (p := ⟨w.heap.size, 0, none⟩) (by show _ < Array.size _; simp <;> omega)]; simp [go_sem]
  have p1 : w1.cell? ⟨w.heap.size, 1, none⟩ = some t := by rw [hb.cell (p := ⟨w.heap.size, 1, none⟩) (by show _ < Array.size _; simp <;> omega)]; simp [go_sem]
  have a0 : w1.cell? ⟨w.heap.size + 1, 0, none⟩ = some (.slice none 0 0) := by rw [hb.cell (p := ⟨w.heap.size + 1, 0, none⟩) (by show _ < Array.size _; simp <;> omega)]; simp [go_sem]
  have a1 : w1.cell? ⟨w.heap.size + 1, 1, none⟩ = some (.slice none 0 0) := by rw [hb.cell (p := ⟨w.heap.size + 1, 1, none⟩) (by show _ < Array.size _; simp <;> omega)]; simp [go_sem]
  have b0 : w1.cell? ⟨w.heap.size + 1 + 1, 0, none⟩ = some (.slice none 0 0) := by rw [hb.cell (p := ⟨w.heap.size + 1 + 1, 0, none⟩) (by show _ < Array.size _; simp <;> omega)]; simp [go_sem]
  have b1 : w1.cell? ⟨w.heap.size + 1 + 1, 1, none⟩ = some (.slice none 0 0) := by rw [hb.cell (p := ⟨w.heap.size + 1 + 1, 1, none⟩) (by show _ < Array.size _; simp <;> omega)]; simp [go_sem]
  have f0 : w1.frozen? ⟨w.heap.size + 1, 0, none⟩ = false := by rw [hb.frozen (p := ⟨w.heap.size + 1, 0, none⟩) (by show _ < Array.size _; simp <;> omega)]; simp [go_sem]
  have f1 : w1.frozen? ⟨w.heap.size + 1, 1, none⟩ = false := by rw [hb.frozen (p := ⟨w.heap.size + 1, 1, none⟩) (by show _ < Array.size _; simp <;> omega)]; simp [go_sem]
  have f2 : w1.frozen? ⟨w.heap.size + 1 + 1, 0, none⟩ = false := by rw [hb.frozen (p := ⟨w.heap.size + 1 + 1, 0, none⟩) (by show _ < Array.size _; simp <;> omega)]; simp [go_sem]
  have f3 : w1.frozen? ⟨w.heap.size + 1 + 1, 1, none⟩ = false := by rw [hb.frozen (p := ⟨w.heap.size + 1 + 1, 1, none⟩) (by show _ < Array.size _; simp <;> omega)]; simp [go_sem]
  have hB1 : Below w.heap.size w w1 := Below.trans (b := _) (by go_grown) (hb.mono (by simp; omega))
  have hsz1 : w.heap.size + 1 + 1 + 1 ≤ w1.heap.size := by have := hb.size; simpa using this
  have HB1 : Hid (Below w.heap.size w (w1.setCell ⟨w.heap.size + 1 + 1, 0, none⟩ (.slice (some ⟨g, 0, none⟩) n n))) := hB1.setCell (by show _ ≤ w.heap.size + 1 + 1; omega) _
  have HO1 : Hid (FOwn (w1.setCell ⟨w.heap.size + 1 + 1, 0, none⟩ (.slice (some ⟨g, 0, none⟩) n n)) g n zs) := ho.other (by show w.heap.size + 1 + 1 ≠ g; omega) _
  have hgl := ho.2.1
  have c0 : (w1.setCell ⟨w.heap.size + 1 + 1, 0, none⟩ (.slice (some ⟨g, 0, none⟩) n n)).cell? ⟨w.heap.size + 1 + 1, 0, none⟩ = some (.slice (some ⟨g, 0, none⟩) n n) := by simp [go_sem, b0]
  have HC0 : Hid _ := c0
  clear hb ho hg hB1 c0
  go_wp2_with fail
  refine (toF_any t m ys _ (H'.out.below HB1.out (Nat.le_refl _)) hm).mono ?_
  rintro e w2 ⟨g', rfl, hg', ho', hb'⟩
  have hg1' : w1.heap.size ≤ g' := by simpa using hg'
  have A0 : w2.cell? ⟨w.heap.size + 1, 0, none⟩ = some (.slice none 0 0) := by rw [hb'.cell (p := ⟨w.heap.size + 1, 0, none⟩) (by show _ < Array.size _; simp <;> omega)]; simp [go_sem, a0]
  have A1 : w2.cell? ⟨w.heap.size + 1, 1, none⟩ = some (.slice none 0 0) := by rw [hb'.cell (p := ⟨w.heap.size + 1, 1, none⟩) (by show _ < Array.size _; simp <;> omega)]; simp [go_sem, a1]
  have B0 : w2.cell? ⟨w.heap.size + 1 + 1, 0, none⟩ = some (.slice (some ⟨g, 0, none⟩) n n) := by rw [hb'.cell (p := ⟨w.heap.size + 1 + 1, 0, none⟩) (by show _ < Array.size _; simp <;> omega)]; exact HC0.out
  have B1 : w2.cell? ⟨w.heap.size + 1 + 1, 1, none⟩ = some (.slice none 0 0) := by rw [hb'.cell (p := ⟨w.heap.size + 1 + 1, 1, none⟩) (by show _ < Array.size _; simp <;> omega)]; simp [go_sem, b1]
  have F0 : w2.frozen? ⟨w.heap.size + 1, 0, none⟩ = false := by rw [hb'.frozen (p := ⟨w.heap.size + 1, 0, none⟩) (by show _ < Array.size _; simp <;> omega)]; simp [go_sem, f0]
  have F1 : w2.frozen? ⟨w.heap.size + 1, 1, none⟩ = false := by rw [hb'.frozen (p := ⟨w.heap.size + 1, 1, none⟩) (by show _ < Array.size _; simp <;> omega)]; simp [go_sem, f1]
  have F3 : w2.frozen? ⟨w.heap.size + 1 + 1, 1, none⟩ = false := by rw [hb'.frozen (p := ⟨w.heap.size + 1 + 1, 1, none⟩) (by show _ < Array.size _; simp <;> omega)]; simp [go_sem, f3]
  have HB2 : Hid (Below w.heap.size w w2) := HB1.out.trans (hb'.mono (by simp; omega))
  have HO2 : Hid (FOwn w2 g n zs) := HO1.out.below hb' (by simpa using hgl)
  have HO3 : Hid (FOwn w2 g' m ys) := ho'
  clear p0 p1 a0 a1 b0 b1 f0 f1 f2 f3 hb' ho' hg' HB1 HO1 HC0
  obtain ⟨P, hP⟩ : ∃ P, P = w2.setCell ⟨w.heap.size + 1 + 1, 1, none⟩ (.slice (some ⟨g', 0, none⟩) m m) := ⟨_, rfl⟩
  have k0 : P.cell? ⟨w.heap.size + 1, 0, none⟩ = some (.slice none 0 0) := by rw [hP]; simp [go_sem, A0]
  have k1 : P.cell? ⟨w.heap.size + 1, 1, none⟩ = some (.slice none 0 0) := by rw [hP]; simp [go_sem, A1]
  have e0 : (P.setCell ⟨w.heap.size + 1, 0, none⟩ (.slice (some ⟨g, 0, none⟩) n n)).cell? ⟨w.heap.size + 1, 0, none⟩ = some (.slice (some ⟨g, 0, none⟩) n n) := by simp [go_sem, k0]
  have e1 : ((P.setCell ⟨w.heap.size + 1, 0, none⟩ (.slice (some ⟨g, 0, none⟩) n n)).setCell ⟨w.heap.size + 1, 1, none⟩ (.slice (some ⟨g', 0, none⟩) m m)).cell? ⟨w.heap.size + 1, 1, none⟩ = some (.slice (some ⟨g', 0, none⟩) m m) := by simp [go_sem, k1]
  have k2 : P.cell? ⟨w.heap.size + 1 + 1, 1, none⟩ = some (.slice (some ⟨g', 0, none⟩) m m) := by rw [hP]; simp [go_sem, B1]
  rw [hP] at e0 e1 k2
  clear k0 k1 hP
  go_wp2_with fail
  (try simp only [Exit.inBlock, Exit.then])
  refine bodyPost_ret (by simp [results, Try.results22, go_sem, e0, e1]; try rfl) rfl ?_
  exact ⟨g, g', rfl, ((HO2.out.other (by show w.heap.size + 1 + 1 ≠ g; omega) _).other (by show w.heap.size + 1 ≠ g; omega) _).other (by show w.heap.size + 1 ≠ g; omega) _,
    ((HO3.out.other (by show w.heap.size + 1 + 1 ≠ g'; omega) _).other (by show w.heap.size + 1 ≠ g'; omega) _).other (by show w.heap.size + 1 ≠ g'; omega) _,
    ((HB2.out.setCell (by show _ ≤ w.heap.size + 1 + 1; omega) _).setCell (by show _ ≤ w.heap.size + 1; omega) _).setCell (by show _ ≤ w.heap.size + 1; omega) _⟩

set_option maxHeartbeats 1000000 in
theorem eqC_any (s s' t t' : Value) (n m : Nat) (zs ys : List Nat) (w : World) (h : FRow w s n zs) (h' : FRow w s' n zs) (k : FRow w t m ys) (k' : FRow w t' m ys) (hn : n ≤ 1048576) (hm : m ≤ 1048576) : Calls Try.prog 24 #[.agg #[s, t], .agg #[s', t']] w fun e w' => e = .returned (.bool true) ∧ Below w.heap.size w w' := by
  have H : Hid (FRow w s n zs) := h
  have H' : Hid (FRow w s' n zs) := h'
  have K : Hid (FRow w t m ys) := k
  have K' : Hid (FRow w t' m ys) := k'
  clear h h' k k'
  go_enter Try.func24, Try.ntmps24
  go_wp2_with fail
  refine (eqF_any _ _ _ _ _ (H.out.below (B := w.heap.size) (by go_grown) (Nat.le_refl _)) (H'.out.below (B := w.heap.size) (by go_grown) (Nat.le_refl _)) hn).mono ?_
  rintro e w1 ⟨rfl, m1, rfl⟩
  go_wp2_with fail
  refine (eqF_any _ _ _ _ _ (Opn.FRow.drewN (K.out.below (B := w.heap.size) (by go_grown) (Nat.le_refl _)) _) (Opn.FRow.drewN (K'.out.below (B := w.heap.size) (by go_grown) (Nat.le_refl _)) _) hm).mono ?_
  rintro e w2 ⟨rfl, m2, rfl⟩
  go_wp2_with fail
  go_ret
  exact ⟨rfl, by first | exact below_drewN (by go_grown) _ | exact below_drewN (below_drewN (by go_grown) _) _⟩

end Go.Proofs.Yteblbalciemkiaa
