/- The contract of the program's maker of a unit; marks into a nil slice. -/
import Derived.Test.YteblbalciemkiaaUnit
namespace Go.Proofs.Yteblbalciemkiaa
open Go.RowKit Opn

theorem unitF_lt (n p : Nat) : unitF n p < 4294967296 := by unfold unitF; split <;> omega

set_option maxRecDepth 100000 in
set_option maxHeartbeats 1000000 in
theorem unit_impl (n : Nat) (w : World) (hn : n ≤ 12) : Calls Try.prog 51 #[.int .i64 n] w fun e w' => ∃ g, e = .returned (.agg #[.int .i64 n, .int .i64 n, .slice (some ⟨g, 0, none⟩) (n * n : Nat) (n * n : Nat)]) ∧ w.heap.size ≤ g ∧ FOwn w' g (n * n) ((List.range (n * n)).map (unitF n)) ∧ Below w.heap.size w w' := by
  go_enter Try.func51, Try.ntmps51
  go_wp2_with fail
  refine (madeU_any n n _ hn hn trivial).mono ?_
  rintro e w1 ⟨g, rfl, hg, ho, hk, -⟩
  have hb := hk.below (fun _ h => h)
  rw [fillTo_all] at ho
  have HR : Hid (BoxW w1 w.heap.size 0 0 (.slice none 0 0)) := (BoxW.new w 0 0 (.slice none 0 0) 24).below hb (by simp)
  have HB : Hid (Below w.heap.size w w1) := ((Below.refl _ w).alloc (Nat.le_refl _) _).trans (hb.mono (by simp))
  have hg1 : w.heap.size + 1 ≤ g := by simpa using hg
  have HO : Hid (FOwn w1 g (n * n) ((List.range (n * n)).map (unitF n))) := ho
  clear hb hg ho hk
  obtain ⟨⟨r0, r1, r2⟩, ⟨f0, f1, f2⟩, -⟩ := HR.out
  obtain ⟨⟨e0, e1, e2⟩, -, -⟩ := HR.out.put (x' := (n : Int)) (y' := (n : Int)) (s' := .slice (some ⟨g, 0, none⟩) (n * n : Nat) (n * n : Nat))
  go_wp2_with fail
  (try simp only [Exit.inBlock, Exit.then])
  refine bodyPost_ret (by simp [results, Try.results51, go_sem, e0, e1, e2]; try rfl) rfl ?_
  exact ⟨g, rfl, by omega, ((HO.out.other (by show w.heap.size ≠ g; omega) _).other (by show w.heap.size ≠ g; omega) _).other (by show w.heap.size ≠ g; omega) _,
    ((HB.out.setCell (Nat.le_refl _) _).setCell (Nat.le_refl _) _).setCell (Nat.le_refl _) _⟩

end Go.Proofs.Yteblbalciemkiaa
