/- Contracts of SameFactor on both sides. -/
import Derived.Test.YteblbalciemkiaaSameMat
import Derived.Test.YteblbalciemkiaaIRow
import Derived.Test.YteblbalciemkiaaFactor2
namespace Go.Proofs.Yteblbalciemkiaa
open Go.RowKit Opn
set_option linter.unusedSimpArgs false

noncomputable def sameFa (x y : Int) (zs : List Nat) (ys : List Int) (x' y' : Int) (zs' : List Nat) (ys' : List Int) : Bool := decide (ys = ys') && sameM x y zs x' y' zs'

set_option maxHeartbeats 2000000 in
theorem sameFa_spec (x y x' y' : Int) (s t s' t' : Value) (n m n' m' : Nat) (zs : List Nat) (ys : List Int) (zs' : List Nat) (ys' : List Int) (w : World) (h : FRow w s n zs) (k : IRow .i64 w t m ys) (h' : FRow w s' n' zs') (k' : IRow .i64 w t' m' ys') (hn : n ≤ 1048576) (hm : m ≤ 1048576) (hn' : n' ≤ 1048576) (hm' : m' ≤ 1048576) :
    Calls Try.prog 32 #[.agg #[.int .i64 x, .int .i64 y, s, t], .agg #[.int .i64 x', .int .i64 y', s', t']] w fun e w' => e = .returned (.bool (sameFa x y zs ys x' y' zs' ys')) ∧ Below w.heap.size w w' := by
  have H : Hid (FRow w s n zs) := h
  have K : Hid (IRow .i64 w t m ys) := k
  have H' : Hid (FRow w s' n' zs') := h'
  have K' : Hid (IRow .i64 w t' m' ys') := k'
  clear h h' k k'
  have hA : Below w.heap.size w ((w.alloc (.cells #[.int .i64 x, .int .i64 y, s, t] 52)).alloc (.cells #[.int .i64 x', .int .i64 y', s', t'] 52)) := by go_grown
  have HA : Hid _ := hA
  clear hA
  unfold sameFa
  cases h1 : decide (ys = ys') with
  | true =>
    go_enter Try.func32, Try.ntmps32
    go_wp2_with fail
    refine (sameI_spec _ _ _ _ _ _ _ (K.out.below HA.out (Nat.le_refl _)) (K'.out.below HA.out (Nat.le_refl _)) hm hm').mono ?_
    rw [h1]
    rintro e w1 ⟨rfl, m1, rfl⟩
    go_wp2_with fail
    refine (l02Same_any _ _ x y x' y' s s' n n' zs zs' _ (by simp [go_sem]) (by simp [go_sem]) (by simp [go_sem]) (by simp [go_sem]) (by simp [go_sem]) (by simp [go_sem]) (Opn.FRow.drewN (H.out.below HA.out (Nat.le_refl _)) _) (Opn.FRow.drewN (H'.out.below HA.out (Nat.le_refl _)) _) hn hn').mono ?_
    rintro e w2 ⟨rfl, m2, rfl⟩
    go_wp2_with fail
    go_ret
    exact ⟨by simp, by first | exact below_drewN HA.out _ | exact below_drewN (below_drewN HA.out _) _⟩
  | false =>
    go_enter Try.func32, Try.ntmps32
    go_wp2_with fail
    refine (sameI_spec _ _ _ _ _ _ _ (K.out.below HA.out (Nat.le_refl _)) (K'.out.below HA.out (Nat.le_refl _)) hm hm').mono ?_
    rw [h1]
    rintro e w1 ⟨rfl, m1, rfl⟩
    go_wp2_with fail
    go_ret
    exact ⟨by simp, below_drewN HA.out _⟩

set_option maxHeartbeats 2000000 in
theorem sameFa_impl (x y x' y' : Int) (s t s' t' : Value) (n m n' m' : Nat) (zs : List Nat) (ys : List Int) (zs' : List Nat) (ys' : List Int) (w : World) (h : FRow w s n zs) (k : IRow .i64 w t m ys) (h' : FRow w s' n' zs') (k' : IRow .i64 w t' m' ys') (hn : n ≤ 1048576) (hm : m ≤ 1048576) (hn' : n' ≤ 1048576) (hm' : m' ≤ 1048576) :
    Calls Try.prog 34 #[.agg #[.int .i64 x, .int .i64 y, s, t], .agg #[.int .i64 x', .int .i64 y', s', t']] w fun e w' => e = .returned (.bool (sameFa x y zs ys x' y' zs' ys')) ∧ Below w.heap.size w w' := by
  have H : Hid (FRow w s n zs) := h
  have K : Hid (IRow .i64 w t m ys) := k
  have H' : Hid (FRow w s' n' zs') := h'
  have K' : Hid (IRow .i64 w t' m' ys') := k'
  clear h h' k k'
  have hA : Below w.heap.size w ((w.alloc (.cells #[.int .i64 x, .int .i64 y, s, t] 52)).alloc (.cells #[.int .i64 x', .int .i64 y', s', t'] 52)) := by go_grown
  have HA : Hid _ := hA
  clear hA
  unfold sameFa
  cases h1 : decide (ys = ys') with
  | true =>
    go_enter Try.func34, Try.ntmps34
    go_wp2_with fail
    refine (sameI_impl _ _ _ _ _ _ _ (K.out.below HA.out (Nat.le_refl _)) (K'.out.below HA.out (Nat.le_refl _)) hm hm').mono ?_
    rw [h1]
    rintro e w1 ⟨rfl, m1, rfl⟩
    go_wp2_with fail
    refine (sameM_impl x y x' y' _ _ n n' zs zs' _ (Opn.FRow.drewN (H.out.below HA.out (Nat.le_refl _)) _) (Opn.FRow.drewN (H'.out.below HA.out (Nat.le_refl _)) _) hn hn').mono ?_
    rintro e w2 ⟨rfl, hb2⟩
    have HB2 : Hid (Below w.heap.size w w2) := (below_drewN HA.out m1).trans (hb2.mono (below_drewN HA.out m1).size)
    clear hb2
    go_wp2_with fail
    go_ret
    exact ⟨by simp, HB2.out⟩
  | false =>
    go_enter Try.func34, Try.ntmps34
    go_wp2_with fail
    refine (sameI_impl _ _ _ _ _ _ _ (K.out.below HA.out (Nat.le_refl _)) (K'.out.below HA.out (Nat.le_refl _)) hm hm').mono ?_
    rw [h1]
    rintro e w1 ⟨rfl, m1, rfl⟩
    go_wp2_with fail
    go_ret
    exact ⟨by simp, below_drewN HA.out _⟩

end Go.Proofs.Yteblbalciemkiaa
