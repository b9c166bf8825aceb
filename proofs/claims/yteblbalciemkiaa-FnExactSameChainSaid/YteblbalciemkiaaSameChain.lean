/- Contracts of SameChain on both sides. -/
import Derived.Test.YteblbalciemkiaaSameRow
import Derived.Test.YteblbalciemkiaaChain
namespace Go.Proofs.Yteblbalciemkiaa
open Go.RowKit Opn
set_option linter.unusedSimpArgs false

noncomputable def sameC (zs ys zs' ys' : List Nat) : Bool := sameL zs zs' && sameL ys ys'

set_option maxHeartbeats 2000000 in
theorem l04Same_any (b b' : Nat) (s t s' t' : Value) (n m n' m' : Nat) (zs ys zs' ys' : List Nat) (w : World) (c0 : w.cell? ⟨b, 0, none⟩ = some s) (c1 : w.cell? ⟨b, 1, none⟩ = some t)
    (d0 : w.cell? ⟨b', 0, none⟩ = some s') (d1 : w.cell? ⟨b', 1, none⟩ = some t') (h : FRow w s n zs) (k : FRow w t m ys) (h' : FRow w s' n' zs') (k' : FRow w t' m' ys') (hn : n ≤ 1048576) (hm : m ≤ 1048576) (hn' : n' ≤ 1048576) (hm' : m' ≤ 1048576) :
    Calls Try.prog 53 #[.pointer (some ⟨b, 0, none⟩), .pointer (some ⟨b', 0, none⟩)] w fun e w' => e = .returned (.bool (sameC zs ys zs' ys')) ∧ ∃ m, w' = w.drewN m := by
  unfold sameC
  have H2 : Hid (∀ q, Calls Try.prog 74 #[t, t'] (w.drewN q) fun e w' => e = .returned (.bool (sameL ys ys')) ∧ ∃ m, w' = (w.drewN q).drewN m) := fun q => sameAll_spec t t' m m' ys ys' _ (k.drewN q) (k'.drewN q) hm hm'
  cases h1 : sameL zs zs' with
  | true =>
    have H1 : Hid (∀ q, Calls Try.prog 74 #[s, s'] (w.drewN q) fun e w' => e = .returned (.bool true) ∧ ∃ m, w' = (w.drewN q).drewN m) := fun q => by
      have := sameAll_spec s s' n n' zs zs' _ (h.drewN q) (h'.drewN q) hn hn'
      rwa [h1] at this
    clear h k h' k' h1
    go_enter Try.func53, Try.ntmps53
    go_wp2_with fail
    go_quiet (first | ((go_at_call 74; with_reducible exact Calls.quiet_of (H1.out _))) | ((go_at_call 74; with_reducible exact Calls.quiet_of (H2.out _))))
    go_wp2_with fail
    go_ret
    exact ⟨by simp, by repeat (first | exact ⟨0, rfl⟩ | exact ⟨_, rfl⟩ | refine drewN_ex ?_ _)⟩
  | false =>
    have H1 : Hid (∀ q, Calls Try.prog 74 #[s, s'] (w.drewN q) fun e w' => e = .returned (.bool false) ∧ ∃ m, w' = (w.drewN q).drewN m) := fun q => by
      have := sameAll_spec s s' n n' zs zs' _ (h.drewN q) (h'.drewN q) hn hn'
      rwa [h1] at this
    clear h k h' k' h1 H2
    go_enter Try.func53, Try.ntmps53
    go_wp2_with fail
    go_quiet ((go_at_call 74; exact Calls.quiet_of (H1.out _)))
    go_wp2_with fail
    go_ret
    exact ⟨by simp, by repeat (first | exact ⟨0, rfl⟩ | exact ⟨_, rfl⟩ | refine drewN_ex ?_ _)⟩

theorem sameC_spec (s t s' t' : Value) (n m n' m' : Nat) (zs ys zs' ys' : List Nat) (w : World) (h : FRow w s n zs) (k : FRow w t m ys) (h' : FRow w s' n' zs') (k' : FRow w t' m' ys') (hn : n ≤ 1048576) (hm : m ≤ 1048576) (hn' : n' ≤ 1048576) (hm' : m' ≤ 1048576) :
    Calls Try.prog 21 #[.agg #[s, t], .agg #[s', t']] w fun e w' => e = .returned (.bool (sameC zs ys zs' ys')) ∧ Below w.heap.size w w' := by
  have H : Hid (FRow w s n zs) := h
  have K : Hid (FRow w t m ys) := k
  have H' : Hid (FRow w s' n' zs') := h'
  have K' : Hid (FRow w t' m' ys') := k'
  clear h h' k k'
  go_enter Try.func21, Try.ntmps21
  go_wp2_with fail
  refine (l04Same_any _ _ s t s' t' n m n' m' zs ys zs' ys' _ (by simp [go_sem]) (by simp [go_sem]) (by simp [go_sem]) (by simp [go_sem]) (H.out.below (B := w.heap.size) (by go_grown) (Nat.le_refl _)) (K.out.below (B := w.heap.size) (by go_grown) (Nat.le_refl _)) (H'.out.below (B := w.heap.size) (by go_grown) (Nat.le_refl _)) (K'.out.below (B := w.heap.size) (by go_grown) (Nat.le_refl _)) hn hm hn' hm').mono ?_
  rintro e w1 ⟨rfl, q, rfl⟩
  go_wp2_with fail
  go_ret
  exact ⟨rfl, below_drewN (by go_grown) _⟩

set_option maxHeartbeats 2000000 in
theorem sameC_impl (s t s' t' : Value) (n m n' m' : Nat) (zs ys zs' ys' : List Nat) (w : World) (h : FRow w s n zs) (k : FRow w t m ys) (h' : FRow w s' n' zs') (k' : FRow w t' m' ys') (hn : n ≤ 1048576) (hm : m ≤ 1048576) (hn' : n' ≤ 1048576) (hm' : m' ≤ 1048576) :
    Calls Try.prog 23 #[.agg #[s, t], .agg #[s', t']] w fun e w' => e = .returned (.bool (sameC zs ys zs' ys')) ∧ Below w.heap.size w w' := by
  have H : Hid (FRow w s n zs) := h
  have K : Hid (FRow w t m ys) := k
  have H' : Hid (FRow w s' n' zs') := h'
  have K' : Hid (FRow w t' m' ys') := k'
  clear h h' k k'
  unfold sameC
  cases h1 : sameL zs zs' with
  | true =>
    go_enter Try.func23, Try.ntmps23
    go_wp2_with fail
    refine (sameAll_impl _ _ _ _ _ _ _ (H.out.below (B := w.heap.size) (by go_grown) (Nat.le_refl _)) (H'.out.below (B := w.heap.size) (by go_grown) (Nat.le_refl _)) hn hn').mono ?_
    rw [h1]
    rintro e w1 ⟨rfl, m1, rfl⟩
    go_wp2_with fail
    refine (sameAll_impl _ _ _ _ _ _ _ (Opn.FRow.drewN (K.out.below (B := w.heap.size) (by go_grown) (Nat.le_refl _)) _) (Opn.FRow.drewN (K'.out.below (B := w.heap.size) (by go_grown) (Nat.le_refl _)) _) hm hm').mono ?_
    rintro e w2 ⟨rfl, m2, rfl⟩
    go_wp2_with fail
    go_ret
    exact ⟨by simp, by first | exact below_drewN (by go_grown) _ | exact below_drewN (below_drewN (by go_grown) _) _⟩
  | false =>
    go_enter Try.func23, Try.ntmps23
    go_wp2_with fail
    refine (sameAll_impl _ _ _ _ _ _ _ (H.out.below (B := w.heap.size) (by go_grown) (Nat.le_refl _)) (H'.out.below (B := w.heap.size) (by go_grown) (Nat.le_refl _)) hn hn').mono ?_
    rw [h1]
    rintro e w1 ⟨rfl, m1, rfl⟩
    go_wp2_with fail
    go_ret
    exact ⟨by simp, below_drewN (by go_grown) _⟩

end Go.Proofs.Yteblbalciemkiaa
