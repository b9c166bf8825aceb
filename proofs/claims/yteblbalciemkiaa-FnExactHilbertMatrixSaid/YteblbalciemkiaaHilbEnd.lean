/- Contracts of the makers of Hilbert's matrix on both sides. -/
import Derived.Test.YteblbalciemkiaaHilbS
namespace Go.Proofs.Yteblbalciemkiaa
open Go.RowKit Opn

set_option maxRecDepth 100000 in
set_option maxHeartbeats 1000000 in
theorem hilbI_ok (n : Nat) (w : World) (h0 : 1 ≤ n) (hn : n ≤ 12) : Calls Try.prog 12 #[.int .i64 n] w fun e w' => ∃ g, e = .returned (.tuple #[.agg #[.int .i64 n, .int .i64 n, .slice (some ⟨g, 0, none⟩) (n * n : Nat) (n * n : Nat)], .bool true]) ∧ w.heap.size ≤ g ∧ FOwn w' g (n * n) ((List.range (n * n)).map (hilbF n)) ∧ Below w.heap.size w w' := by
  have hsd : sideB (n : Int) = true := by unfold sideB; simp; omega
  have HS : Hid (∀ w, Calls Try.prog 41 #[.int .i64 n] w fun e w' => e = .returned (.bool true) ∧ w' = w) := fun w => by have := isSide_any (n : Int) w; rwa [hsd] at this
  clear hsd
  go_enter Try.func12, Try.ntmps12
  go_wp2_with (go_at_call 41; (with_reducible refine (HS.out _).mono ?_); rintro e w' ⟨rfl, rfl⟩)
  refine (madeH_any n n _ hn hn trivial).mono ?_
  rintro e w1 ⟨g, rfl, hg, ho, hk, -⟩
  have hb := hk.below (fun _ h => h)
  rw [fillTo_all] at ho
  clear hk
  have HR : Hid (BoxW w1 w.heap.size 0 0 (.slice none 0 0)) := (BoxW.new w 0 0 (.slice none 0 0) 24).below hb (by simp)
  have HB : Hid (Below w.heap.size w w1) := ((Below.refl _ w).alloc (Nat.le_refl _) _).trans (hb.mono (by simp))
  have hg1 : w.heap.size + 1 ≤ g := by simpa using hg
  have HO : Hid (FOwn w1 g (n * n) ((List.range (n * n)).map (hilbF n))) := ho
  clear hb hg ho HS
  obtain ⟨⟨r0, r1, r2⟩, ⟨f0, f1, f2⟩, -⟩ := HR.out
  obtain ⟨⟨e0, e1, e2⟩, -, -⟩ := HR.out.put (x' := (n : Int)) (y' := (n : Int)) (s' := .slice (some ⟨g, 0, none⟩) (n * n : Nat) (n * n : Nat))
  go_wp2_with fail
  (try simp only [Exit.inBlock, Exit.then])
  refine bodyPost_ret (by simp [results, Try.results12, go_sem, e0, e1, e2]; try rfl) rfl ?_
  exact ⟨g, rfl, by omega, ((HO.out.other (by show w.heap.size ≠ g; omega) _).other (by show w.heap.size ≠ g; omega) _).other (by show w.heap.size ≠ g; omega) _,
    ((HB.out.setCell (Nat.le_refl _) _).setCell (Nat.le_refl _) _).setCell (Nat.le_refl _) _⟩

set_option maxRecDepth 100000 in
set_option maxHeartbeats 1000000 in
theorem hilbI_bad (n : Int) (w : World) (hn : sideB n = false) : Calls Try.prog 12 #[.int .i64 n] w fun e w' => e = .returned (.tuple #[.agg #[.int .i64 0, .int .i64 0, .slice none 0 0], .bool false]) ∧ Below w.heap.size w w' := by
  have HS : Hid (∀ w, Calls Try.prog 41 #[.int .i64 n] w fun e w' => e = .returned (.bool false) ∧ w' = w) := fun w => by have := isSide_any (n : Int) w; rwa [hn] at this
  clear hn
  obtain ⟨⟨r0, r1, r2⟩, ⟨f0, f1, f2⟩, -⟩ := BoxW.new w 0 0 (.slice none 0 0) 24
  go_enter Try.func12, Try.ntmps12
  go_wp2_with (go_at_call 41; (with_reducible refine (HS.out _).mono ?_); rintro e w' ⟨rfl, rfl⟩)
  (try simp only [Exit.inBlock, Exit.then])
  refine bodyPost_ret (by simp [results, Try.results12, go_sem]; try rfl) rfl ?_
  exact ⟨rfl, by go_grown⟩

set_option maxRecDepth 100000 in
set_option maxHeartbeats 1000000 in
theorem hilbS_bad (n : Int) (w : World) (hn : sideB n = false) : Calls Try.prog 11 #[.int .i64 n] w fun e w' => e = .returned (.tuple #[.agg #[.int .i64 0, .int .i64 0, .slice none 0 0], .bool false]) ∧ Below w.heap.size w w' := by
  have HS : Hid (∀ w, Calls Try.prog 39 #[.int .i64 n, .int .i64 1, .int .i64 12] w fun e w' => e = .returned (.bool false) ∧ w' = w) := fun w => by have := in_spec (n : Int) w; rwa [hn] at this
  clear hn
  obtain ⟨⟨r0, r1, r2⟩, ⟨f0, f1, f2⟩, -⟩ := BoxW.new w 0 0 (.slice none 0 0) 24
  go_enter Try.func11, Try.ntmps11
  go_wp2_with (go_at_call 39; (with_reducible refine (HS.out _).mono ?_); rintro e w' ⟨rfl, rfl⟩)
  (try simp only [Exit.inBlock, Exit.then])
  refine bodyPost_ret (by simp [results, Try.results11, go_sem]; try rfl) rfl ?_
  exact ⟨rfl, by go_grown⟩

end Go.Proofs.Yteblbalciemkiaa
