/- Contracts of the laws' helpers on factors: a matrix and an order. -/
import Derived.Test.YteblbalciemkiaaSize
import Derived.Test.YteblbalciemkiaaIVec
namespace Go.Proofs.Yteblbalciemkiaa
open Go.RowKit Opn

theorem Opn.IRow.shape' {w : World} {v : Value} {n : Nat} {zs : List Int} (h : IRow .i64 w v n zs) : ∃ ao cap, v = .slice ao n cap := by
  rcases h.2.2.2 with ⟨h0, ao, cap, hv⟩ | ⟨h0, b, off, cap, hv, _⟩
  · exact ⟨ao, cap, by rw [hv, h0]⟩
  · exact ⟨_, cap, hv⟩

theorem szI_gen (k : Int) (hk0 : 0 ≤ k) (hk1 : k ≤ 1048576) (s : Value) (n : Nat) (zs : List Int) (w : World) (h : IRow .i64 w s n zs) : Calls Try.prog 60 #[s, .int .i64 k] w fun e w' => e = .returned (.int .i64 (if (n : Int) ≤ k then k - n else -1)) ∧ Below w.heap.size w w' := by
  have h2 : n ≤ 9223372036854775807 := h.2.1
  obtain ⟨ao, cap, rfl⟩ := Opn.IRow.shape' h
  clear h
  by_cases hn : (n : Int) ≤ k
  · rw [if_pos hn]
    have hd : decide (k - (n : Int) < 0) = false := decide_eq_false (by omega)
    go_enter Try.func60, Try.ntmps60
    go_wp2_with go_in
    go_ret
    exact ⟨by simp, by go_grown⟩
  · rw [if_neg hn]
    have hd : decide (k - (n : Int) < 0) = true := decide_eq_true (by omega)
    go_enter Try.func60, Try.ntmps60
    go_wp2_with go_in
    go_ret
    exact ⟨rfl, by go_grown⟩

set_option maxHeartbeats 1000000 in
theorem szFa_gen (k : Int) (hk0 : 0 ≤ k) (hk1 : k ≤ 1048576) (x y : Int) (s t : Value) (n m : Nat) (zs : List Nat) (ys : List Int) (w : World) (h : FRow w s n zs) (h' : IRow .i64 w t m ys) : Calls Try.prog 31 #[.agg #[.int .i64 x, .int .i64 y, s, t], .int .i64 k] w fun e w' => e = .returned (.int .i64 (if (n : Int) + m ≤ k then k - n - m else -1)) ∧ Below w.heap.size w w' := by
  have H : Hid (FRow w s n zs) := h
  have H' : Hid (IRow .i64 w t m ys) := h'
  clear h h'
  have hA : Below w.heap.size w (w.alloc (.cells #[.int .i64 x, .int .i64 y, s, t] 48)) := (Below.refl _ _).alloc (Nat.le_refl _) _
  have HA : Hid _ := hA
  clear hA
  by_cases hm : (n : Int) + m ≤ k
  · have hn : (n : Int) ≤ k := by omega
    have hd : decide (k - (n : Int) < 0) = false := decide_eq_false (by omega)
    have hd2 : decide (k - (n : Int) - (m : Int) < 0) = false := decide_eq_false (by omega)
    rw [if_pos hm]
    go_enter Try.func31, Try.ntmps31
    go_wp2_with fail
    refine (szM_gen k hk0 hk1 x y s n zs _ (H.out.below HA.out (Nat.le_refl _))).mono ?_
    rw [if_pos hn]
    rintro e w1 ⟨rfl, hb1⟩
    have p3 : w1.cell? ⟨w.heap.size, 3, none⟩ = some t := by rw [hb1.cell (p := ⟨w.heap.size, 3, none⟩) (by show _ < Array.size _; simp)]; simp [go_sem]
    have HB1 : Hid (Below w.heap.size w w1) := HA.out.trans (hb1.mono HA.out.size)
    clear hb1
    go_wp2_with fail
    refine (szI_gen (k - n) (by omega) (by omega) t m ys _ (H'.out.below HB1.out (Nat.le_refl _))).mono ?_
    rw [if_pos (by omega)]
    rintro e w2 ⟨rfl, hb2⟩
    have HB2 : Hid (Below w.heap.size w w2) := HB1.out.trans (hb2.mono HB1.out.size)
    clear hb2
    go_wp2_with fail
    go_ret
    exact ⟨rfl, HB2.out⟩
  rw [if_neg hm]
  by_cases hn : (n : Int) ≤ k
  · have hd : decide (k - (n : Int) < 0) = false := decide_eq_false (by omega)
    go_enter Try.func31, Try.ntmps31
    go_wp2_with fail
    refine (szM_gen k hk0 hk1 x y s n zs _ (H.out.below HA.out (Nat.le_refl _))).mono ?_
    rw [if_pos hn]
    rintro e w1 ⟨rfl, hb1⟩
    have p3 : w1.cell? ⟨w.heap.size, 3, none⟩ = some t := by rw [hb1.cell (p := ⟨w.heap.size, 3, none⟩) (by show _ < Array.size _; simp)]; simp [go_sem]
    have HB1 : Hid (Below w.heap.size w w1) := HA.out.trans (hb1.mono HA.out.size)
    clear hb1
    go_wp2_with fail
    refine (szI_gen (k - n) (by omega) (by omega) t m ys _ (H'.out.below HB1.out (Nat.le_refl _))).mono ?_
    rw [if_neg (by omega)]
    rintro e w2 ⟨rfl, hb2⟩
    have HB2 : Hid (Below w.heap.size w w2) := HB1.out.trans (hb2.mono HB1.out.size)
    clear hb2
    go_wp2_with fail
    go_ret
    exact ⟨rfl, HB2.out⟩
  · go_enter Try.func31, Try.ntmps31
    go_wp2_with fail
    refine (szM_gen k hk0 hk1 x y s n zs _ (H.out.below HA.out (Nat.le_refl _))).mono ?_
    rw [if_neg (show ¬ ((n : Int) ≤ k) by omega)]
    rintro e w1 ⟨rfl, hb1⟩
    have HB1 : Hid (Below w.heap.size w w1) := HA.out.trans (hb1.mono HA.out.size)
    clear hb1
    go_wp2_with fail
    go_ret
    exact ⟨rfl, HB1.out⟩

set_option maxHeartbeats 1000000 in
theorem eqFa_any (x y : Int) (s s' t t' : Value) (n m : Nat) (zs : List Nat) (ys : List Int) (w : World) (h : FRow w s n zs) (h' : FRow w s' n zs) (k : IRow .i64 w t m ys) (k' : IRow .i64 w t' m ys) (hn : n ≤ 1048576) (hm : m ≤ 1048576) : Calls Try.prog 35 #[.agg #[.int .i64 x, .int .i64 y, s, t], .agg #[.int .i64 x, .int .i64 y, s', t']] w fun e w' => e = .returned (.bool true) ∧ Below w.heap.size w w' := by
  have H : Hid (FRow w s n zs) := h
  have H' : Hid (FRow w s' n zs) := h'
  have K : Hid (IRow .i64 w t m ys) := k
  have K' : Hid (IRow .i64 w t' m ys) := k'
  clear h h' k k'
  have hA : Below w.heap.size w ((w.alloc (.cells #[.int .i64 x, .int .i64 y, s, t] 52)).alloc (.cells #[.int .i64 x, .int .i64 y, s', t'] 52)) := by go_grown
  have HA : Hid _ := hA
  clear hA
  go_enter Try.func35, Try.ntmps35
  go_wp2_with fail
  refine (eqM_any x y _ _ n zs _ (H.out.below HA.out (Nat.le_refl _)) (H'.out.below HA.out (Nat.le_refl _)) hn).mono ?_
  rintro e w1 ⟨rfl, hb1⟩
  have p3 : w1.cell? ⟨w.heap.size, 3, none⟩ = some t := by rw [hb1.cell (p := ⟨w.heap.size, 3, none⟩) (by show _ < Array.size _; simp <;> omega)]; simp [go_sem]
  have q3 : w1.cell? ⟨w.heap.size + 1, 3, none⟩ = some t' := by rw [hb1.cell (p := ⟨w.heap.size + 1, 3, none⟩) (by show _ < Array.size _; simp)]; simp [go_sem]
  have HB1 : Hid (Below w.heap.size w w1) := HA.out.trans (hb1.mono HA.out.size)
  clear hb1
  go_wp2_with fail
  refine (eqI_any _ _ m ys _ (K.out.below HB1.out (Nat.le_refl _)) (K'.out.below HB1.out (Nat.le_refl _)) hm).mono ?_
  rintro e w2 ⟨rfl, m2, rfl⟩
  go_wp2_with fail
  go_ret
  exact ⟨rfl, below_drewN HB1.out _⟩

end Go.Proofs.Yteblbalciemkiaa
