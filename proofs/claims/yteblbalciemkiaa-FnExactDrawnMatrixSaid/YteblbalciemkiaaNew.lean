/- Contracts of the makers of a matrix of zeros on both sides. -/
import Derived.Test.YteblbalciemkiaaMark
import Derived.IntWalk
namespace Go.Proofs.Yteblbalciemkiaa
open Go.RowKit Opn

set_option maxRecDepth 100000 in
set_option maxHeartbeats 1000000 in
theorem newM_any (x y : Int) (n : Nat) (w : World) (hxy : x * y = (n : Int)) (hn : n ≤ 1048576) : Calls Try.prog 70 #[.int .i64 x, .int .i64 y] w fun e w' => ∃ g, e = .returned (.agg #[.int .i64 x, .int .i64 y, .slice (some ⟨g, 0, none⟩) n n]) ∧ w.heap.size ≤ g ∧ FOwn w' g n (List.replicate n 0) ∧ Below w.heap.size w w' := by
  obtain ⟨i, hi, hz0, hz1, hz2⟩ := mf
  have hb4 : i.bytes * n ≤ 281474976710656 := by rw [hz2]; omega
  have hwr : wrap64 (x * y) = (n : Int) := by rw [hxy]; unfold wrap64; omega
  have hmx : n ≤ 9223372036854775807 := by omega
  have hml : n ≤ maxLen := (show n ≤ 9223372036854775807 by omega)
  clear hxy
  go_enter Try.func70, Try.ntmps70
  go_wp2_with (at_make; (refine wpList_make_full _ rfl _ _ 22 rfl w.heap.size 55 i (.float .f32 0) 1 Try.underlying22 hi hz0 hz1 .i64 .i64 _ _ n rfl rfl hwr hwr (by omega) (by omega) (by simp) ?_; intro w' hown hgrow); (have hs : (w.alloc (.cells #[.int .i64 0, .int .i64 0, .slice none 0 0] 24)).heap.size = w.heap.size + 1 := by simp); (rw [hs] at hown); (have hown' : FOwn w' (w.heap.size + 1) n (List.replicate n 0) := FOwn.made hown); (have hbel : Below (w.heap.size + 1) (w.alloc (.cells #[.int .i64 0, .int .i64 0, .slice none 0 0] 24)) w' := (Below.refl _ _).grown hgrow (by simp) (by simp)); (have a0 : w'.cell? ⟨w.heap.size, 0, none⟩ = some (.int .i64 0) := by rw [hbel.cell (p := ⟨w.heap.size, 0, none⟩) (by show _ < _; simp)]; simp [go_sem]); (have a1 : w'.cell? ⟨w.heap.size, 1, none⟩ = some (.int .i64 0) := by rw [hbel.cell (p := ⟨w.heap.size, 1, none⟩) (by show _ < _; simp)]; simp [go_sem]); (have a2 : w'.cell? ⟨w.heap.size, 2, none⟩ = some (.slice none 0 0) := by rw [hbel.cell (p := ⟨w.heap.size, 2, none⟩) (by show _ < _; simp)]; simp [go_sem]); (have f0 : w'.frozen? ⟨w.heap.size, 0, none⟩ = false := by rw [hbel.frozen (p := ⟨w.heap.size, 0, none⟩) (by show _ < _; simp)]; simp [go_sem]); (have f1 : w'.frozen? ⟨w.heap.size, 1, none⟩ = false := by rw [hbel.frozen (p := ⟨w.heap.size, 1, none⟩) (by show _ < _; simp)]; simp [go_sem]); (have f2 : w'.frozen? ⟨w.heap.size, 2, none⟩ = false := by rw [hbel.frozen (p := ⟨w.heap.size, 2, none⟩) (by show _ < _; simp)]; simp [go_sem]); (have HB : Hid (Below w.heap.size w w') := Below.trans (b := _) (by go_grown) (hbel.mono (by omega))); (have HO : Hid (FOwn w' (w.heap.size + 1) n (List.replicate n 0)) := hown'); (have e0 : (w'.setCell ⟨w.heap.size, 0, none⟩ (.int .i64 x)).cell? ⟨w.heap.size, 0, none⟩ = some (.int .i64 x) := by simp [go_sem, a0]); (have e1 : ((w'.setCell ⟨w.heap.size, 0, none⟩ (.int .i64 x)).setCell ⟨w.heap.size, 1, none⟩ (.int .i64 y)).cell? ⟨w.heap.size, 1, none⟩ = some (.int .i64 y) := by simp [go_sem, a1]); (have e2 : (((w'.setCell ⟨w.heap.size, 0, none⟩ (.int .i64 x)).setCell ⟨w.heap.size, 1, none⟩ (.int .i64 y)).setCell ⟨w.heap.size, 2, none⟩ (.slice (some ⟨w.heap.size + 1, 0, none⟩) n n)).cell? ⟨w.heap.size, 2, none⟩ = some (.slice (some ⟨w.heap.size + 1, 0, none⟩) n n) := by simp [go_sem, a2]); (clear hown hgrow hown' hbel hs))
  (try simp only [Exit.inBlock, Exit.then])
  refine bodyPost_ret (by simp [results, Try.results70, go_sem, e0, e1, e2]; try rfl) rfl ?_
  exact ⟨w.heap.size + 1, rfl, by omega, ((HO.out.other (by show w.heap.size ≠ w.heap.size + 1; omega) _).other (by show w.heap.size ≠ w.heap.size + 1; omega) _).other (by show w.heap.size ≠ w.heap.size + 1; omega) _,
    ((HB.out.setCell (Nat.le_refl _) _).setCell (Nat.le_refl _) _).setCell (Nat.le_refl _) _⟩

set_option maxRecDepth 100000 in
set_option maxHeartbeats 1000000 in
theorem zeroM_any (x y : Int) (n : Nat) (w : World) (hxy : x * y = (n : Int)) (hn : n ≤ 1048576) : Calls Try.prog 72 #[.int .i64 x, .int .i64 y] w fun e w' => ∃ g, e = .returned (.agg #[.int .i64 x, .int .i64 y, .slice (some ⟨g, 0, none⟩) n n]) ∧ w.heap.size ≤ g ∧ FOwn w' g n (List.replicate n 0) ∧ Below w.heap.size w w' := by
  obtain ⟨i, hi, hz0, hz1, hz2⟩ := mf
  have hb4 : i.bytes * n ≤ 281474976710656 := by rw [hz2]; omega
  have hwr : wrap64 (x * y) = (n : Int) := by rw [hxy]; unfold wrap64; omega
  have hmx : n ≤ 9223372036854775807 := by omega
  have hml : n ≤ maxLen := (show n ≤ 9223372036854775807 by omega)
  clear hxy
  go_enter Try.func72, Try.ntmps72
  go_wp2_with (at_make; (refine wpList_make_full _ rfl _ _ 22 rfl w.heap.size 55 i (.float .f32 0) 1 Try.underlying22 hi hz0 hz1 .i64 .i64 _ _ n rfl rfl hwr hwr (by omega) (by omega) (by simp) ?_; intro w' hown hgrow); (have hs : (w.alloc (.cells #[.int .i64 0, .int .i64 0, .slice none 0 0] 24)).heap.size = w.heap.size + 1 := by simp); (rw [hs] at hown); (have hown' : FOwn w' (w.heap.size + 1) n (List.replicate n 0) := FOwn.made hown); (have hbel : Below (w.heap.size + 1) (w.alloc (.cells #[.int .i64 0, .int .i64 0, .slice none 0 0] 24)) w' := (Below.refl _ _).grown hgrow (by simp) (by simp)); (have a0 : w'.cell? ⟨w.heap.size, 0, none⟩ = some (.int .i64 0) := by rw [hbel.cell (p := ⟨w.heap.size, 0, none⟩) (by show _ < _; simp)]; simp [go_sem]); (have a1 : w'.cell? ⟨w.heap.size, 1, none⟩ = some (.int .i64 0) := by rw [hbel.cell (p := ⟨w.heap.size, 1, none⟩) (by show _ < _; simp)]; simp [go_sem]); (have a2 : w'.cell? ⟨w.heap.size, 2, none⟩ = some (.slice none 0 0) := by rw [hbel.cell (p := ⟨w.heap.size, 2, none⟩) (by show _ < _; simp)]; simp [go_sem]); (have f0 : w'.frozen? ⟨w.heap.size, 0, none⟩ = false := by rw [hbel.frozen (p := ⟨w.heap.size, 0, none⟩) (by show _ < _; simp)]; simp [go_sem]); (have f1 : w'.frozen? ⟨w.heap.size, 1, none⟩ = false := by rw [hbel.frozen (p := ⟨w.heap.size, 1, none⟩) (by show _ < _; simp)]; simp [go_sem]); (have f2 : w'.frozen? ⟨w.heap.size, 2, none⟩ = false := by rw [hbel.frozen (p := ⟨w.heap.size, 2, none⟩) (by show _ < _; simp)]; simp [go_sem]); (have HB : Hid (Below w.heap.size w w') := Below.trans (b := _) (by go_grown) (hbel.mono (by omega))); (have HO : Hid (FOwn w' (w.heap.size + 1) n (List.replicate n 0)) := hown'); (have e0 : (w'.setCell ⟨w.heap.size, 0, none⟩ (.int .i64 x)).cell? ⟨w.heap.size, 0, none⟩ = some (.int .i64 x) := by simp [go_sem, a0]); (have e1 : ((w'.setCell ⟨w.heap.size, 0, none⟩ (.int .i64 x)).setCell ⟨w.heap.size, 1, none⟩ (.int .i64 y)).cell? ⟨w.heap.size, 1, none⟩ = some (.int .i64 y) := by simp [go_sem, a1]); (have e2 : (((w'.setCell ⟨w.heap.size, 0, none⟩ (.int .i64 x)).setCell ⟨w.heap.size, 1, none⟩ (.int .i64 y)).setCell ⟨w.heap.size, 2, none⟩ (.slice (some ⟨w.heap.size + 1, 0, none⟩) n n)).cell? ⟨w.heap.size, 2, none⟩ = some (.slice (some ⟨w.heap.size + 1, 0, none⟩) n n) := by simp [go_sem, a2]); (clear hown hgrow hown' hbel hs))
  (try simp only [Exit.inBlock, Exit.then])
  refine bodyPost_ret (by simp [results, Try.results72, go_sem, e0, e1, e2]; try rfl) rfl ?_
  exact ⟨w.heap.size + 1, rfl, by omega, ((HO.out.other (by show w.heap.size ≠ w.heap.size + 1; omega) _).other (by show w.heap.size ≠ w.heap.size + 1; omega) _).other (by show w.heap.size ≠ w.heap.size + 1; omega) _,
    ((HB.out.setCell (Nat.le_refl _) _).setCell (Nat.le_refl _) _).setCell (Nat.le_refl _) _⟩

end Go.Proofs.Yteblbalciemkiaa
